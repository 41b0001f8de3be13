/- slices.SortFunc by trace.compare; slices.SortedFunc. -/
import Derived.Test.YtbkhldaomalmoaaSeq
import Derived.Test.YtbkhldaomalmoaaPlCmp
import Derived.Test.YtbkhldaomalmoaaShelf
namespace Go.Proofs.Ytbkhldaomalmoaa
open Go.RowKit Go.Maps Go.Sort Go.Shelf

/-- places that are places -/
structure Po where
  val : Pl
  ok : val.Ok
instance : Inhabited Po := ⟨⟨⟨0, false, 0⟩, ⟨by unfold A160; decide, W256_pos⟩⟩⟩
def encPo (x : Po) : List Value := plC x.val
def cfPo (x y : Po) : Int := cmpN x.val.code y.val.code
theorem ltPo (x y : Po) : ltOf cfPo x y = decide (x.val.code < y.val.code) := by
  unfold ltOf cfPo cmpN
  by_cases h : x.val.code < y.val.code
  · simp [h]
  · by_cases h2 : x.val.code = y.val.code <;> simp [h2] <;> omega
theorem swoPo : SWO (ltOf cfPo) where
  irrefl x := by rw [ltPo]; simp
  trans x y z h1 h2 := by rw [ltPo] at *; simp at *; omega
  ntrans x y z h1 h2 := by rw [ltPo] at *; simp at *; omega
theorem totPo (x y : Po) (h1 : ltOf cfPo x y = false) (h2 : ltOf cfPo y x = false) : x = y := by
  rw [ltPo] at *
  simp at *
  have h := Pl.code_inj x.ok y.ok (by omega)
  cases x; cases y; cases h; rfl
theorem flatPo (L : List Po) : (flatK encPo 25 L.toArray).toList = (L.map Po.val).flatMap plC := by
  apply List.ext_getElem?
  intro i
  by_cases hi : i < L.length * 25
  · have hk : i / 25 < L.length := by omega
    have hj : i % 25 < 25 := Nat.mod_lt _ (by decide)
    have h1 : (flatK encPo 25 L.toArray)[i]? = some ((plC (L[i / 25]).val)[i % 25]'(by rw [plC_len]; exact hj)) := by
      have := get_flatK encPo 25 L.toArray i (by simpa using hi)
      rw [getElem!_pos _ i (by simpa using hi)] at this
      rw [Array.getElem?_eq_getElem (by simpa using hi), this]
      congr 1
      have e : (L.toArray)[i / 25]! = L[i / 25] := by rw [getElem!_pos _ _ (by simpa using hk)]; simp
      rw [e, encPo, getElem!_pos]
    rw [Array.getElem?_toList, h1]
    have h2 := flat_get (L.map Po.val) (i / 25) (L[i / 25]).val (by simp [hk]) (i % 25) _ (List.getElem?_eq_getElem (by rw [plC_len]; exact hj))
    rw [show i / 25 * 25 + i % 25 = i by omega] at h2
    exact h2.symm
  · rw [List.getElem?_eq_none (by simp; omega), List.getElem?_eq_none (by rw [flat_len]; simp; omega)]
theorem cmpLaysPo (blk off size : Nat) (w : World) : CmpLays Try.prog 20 #[] encPo 25 cfPo blk off size w := fun m os dk _ x y =>
  (tcompare_calls x.val y.val x.ok y.ok _).mono fun e w' h => ⟨h.1, h.2⟩
/-- what the sort leaves: any list with the same places that rises -/
theorem heap_sortedK {w : World} {g n : Nat} {os : Array Obj} {cur : Array Value} {e : TypeId} {fr : Nat × Nat} (F : Array Value) (hb : w.heap[g]? = some (.cells cur e fr)) :
    (grow (putRow id (Sort.ahead w n) g 0 F) os).heap[g]? = some (.cells (putCells id 0 F cur) e fr) := by
  have hg : g < w.heap.size := (Array.getElem?_eq_some_iff.1 hb).1
  rw [heap_grow_old _ _ (by simpa using hg)]
  simp [putRow, mapBlock, Sort.ahead, Array.getElem?_modify, hb, onCells]
theorem grownBy_sortedK {w : World} {g n : Nat} {os : Array Obj} (F : Array Value) : w.grownBy (grow (putRow id (Sort.ahead w n) g 0 F) os) (some g) := by
  refine ⟨rfl, rfl, rfl, by simp, fun k hk hne => ?_⟩
  rw [heap_grow_old _ _ (by simpa using hk)]
  have : g ≠ k := fun e => hne (by rw [e])
  simp [putRow, mapBlock, Sort.ahead, Array.getElem?_modify, this]
theorem take_putCellsK (cur : Array Value) (ts : List Value) (h : ts.length ≤ cur.size) : (putCells id 0 ts.toArray cur).toList.take ts.length = ts := by
  apply List.ext_getElem?
  intro j
  by_cases hj : j < ts.length
  · rw [List.getElem?_take_of_lt hj, Array.getElem?_toList]
    simp [putCells, hj, show j < cur.size by omega]
  · rw [List.getElem?_take_eq_none (by omega), List.getElem?_eq_none (by omega)]

set_option maxRecDepth 100000 in
theorem sortfunc_calls (ps : List Pl) (hP : ∀ p ∈ ps, p.Ok) (hlen : ps.length < 1000000) (v : Value) (base : Nat) (w : World) (hown : w.ownsRow base 50 25 v ps.length (ps.flatMap plC)) :
    Calls Try.prog 32 #[v, .func (.func 20) #[] #[]] w fun e w' => e = .returned (.tuple #[]) ∧ ∃ qs : List Pl, qs.Perm ps ∧ qs.Pairwise (fun x y => x.code ≤ y.code) ∧ w'.ownsRow base 50 25 v qs.length (qs.flatMap plC) ∧ w.grownBy w' v.ownBlock := by
  rcases hown.2 with ⟨rfl, h0⟩ | ⟨g, cap, cur, rfl, hbase, hb, h1, h2, h3, h4⟩
  · have hnil : ps = [] := List.eq_nil_of_length_eq_zero h0
    subst hnil
    refine (AnyF.slices_SortFunc_none Try.sortPlaces none 0 (.func (.func 20) #[] #[]) w).mono ?_
    rintro e w' ⟨rfl, rfl⟩
    exact ⟨rfl, [], List.Perm.nil, List.Pairwise.nil, hown, World.grownBy.refl _ _⟩
  · have hatt : (ps.attach.map fun p => (⟨p.1, hP p.1 p.2⟩ : Po)).map Po.val = ps := by rw [List.map_map]; exact List.attach_map_subtype_val ps
    generalize (ps.attach.map fun p => (⟨p.1, hP p.1 p.2⟩ : Po)) = L at hatt
    subst hatt
    rw [List.length_map] at *
    have hfl := flatPo L
    have hH : HoldsK encPo 25 w g 0 L.toArray := by
      intro j hj
      have hj' : j < L.length * 25 := by simpa using hj
      refine ⟨?_, by simp [World.frozen?, hb]⟩
      have e1 : (cur.toList.take (L.length * 25))[j]? = ((flatK encPo 25 L.toArray).toList)[j]? := by rw [h4, hfl]
      rw [List.getElem?_take_of_lt hj', Array.getElem?_toList, Array.getElem?_toList] at e1
      simp only [World.cell?, hb, Nat.zero_add, Option.isSome_none, Bool.false_eq_true, if_false]
      rw [e1, Array.getElem?_eq_getElem hj, getElem!_pos _ j hj]
      rfl
    have eg : ∀ args w, (callFunc 20 args).run Try.prog w = .ok (.enter 20 args) w := enters_of Try.func20 (by kernel_rfl) rfl
    have hcon := AnyQ.slices_SortFunc_total Try.sortPlaces 25 (fun w => by kernel_rfl) (fun w => by kernel_rfl) encPo (fun x => plC_len x.val) (fun x => plC_one x.val) cfPo swoPo 20 #[] g 0 cap L.toArray w eg (cmpLaysPo g 0 _ w) hH (at_lt hb) (by simp; omega) totPo
    change Calls Try.prog 32 _ _ _ at hcon
    rw [List.size_toArray] at hcon
    refine hcon.mono ?_
    rintro e w' ⟨rfl, n, os, rfl⟩
    have hp : (L.mergeSort fun x y => !(ltOf cfPo) y x).Perm L := List.mergeSort_perm _ _
    have hs : (L.mergeSort fun x y => !(ltOf cfPo) y x).Pairwise fun x y => (!(ltOf cfPo) y x) = true := List.pairwise_mergeSort (fun a b c h1 h2 => by rw [ltPo] at *; simp at *; omega) (fun a b => by rw [ltPo, ltPo]; simp; omega) L
    generalize (L.mergeSort fun x y => !(ltOf cfPo) y x) = M at hp hs
    refine ⟨rfl, M.map Po.val, hp.map _, ?_, ?_, ?_⟩
    · rw [List.pairwise_map]
      exact hs.imp (fun h => by rw [ltPo] at h; simpa using h)
    · have hML : M.length = L.length := hp.length_eq
      have hfM := flatPo M
      refine ⟨by rw [flat_len], .inr ⟨g, cap, _, ?_, hbase, heap_sortedK _ hb, ?_, h2, ?_, ?_⟩⟩
      · rw [List.length_map, hML]
      · rw [List.length_map, hML]; exact h1
      · simp [putCells, h3]
      · have e2 : flatK encPo 25 M.toArray = ((M.map Po.val).flatMap plC).toArray := by rw [← hfM]
        have e3 : ((M.map Po.val).flatMap plC).length = (M.map Po.val).length * 25 := flat_len _
        rw [e2, ← e3]
        exact take_putCellsK cur _ (by rw [e3, List.length_map, hML, h3]; omega)
    · exact grownBy_sortedK _
/-- the places of L, each once, rising -/
structure Rises (L qs : List Pl) : Prop where
  mem : ∀ p, p ∈ qs ↔ p ∈ L
  lt : qs.Pairwise (fun x y => x.code < y.code)
theorem Rises.ok {L qs : List Pl} (h : Rises L qs) (hL : ∀ x ∈ L, x.Ok) : ∀ x ∈ qs, x.Ok := fun x hx => hL x ((h.mem x).1 hx)
theorem rises_of {L ps qs : List Pl} (hL : ∀ x ∈ L, x.Ok) (hn : ps.Nodup) (hm : ∀ x, x ∈ ps ↔ x ∈ L) (hp : qs.Perm ps) (hs : qs.Pairwise (fun x y => x.code ≤ y.code)) : Rises L qs := by
  refine ⟨fun p => by rw [hp.mem_iff, hm], ?_⟩
  have hnq : qs.Nodup := hp.nodup_iff.2 hn
  have hok : ∀ x ∈ qs, x.Ok := fun x hx => hL x ((hm x).1 (hp.mem_iff.1 hx))
  have h2 := hs.and hnq
  refine h2.imp_of_mem ?_
  intro a b ha hb h
  rcases Nat.lt_or_ge a.code b.code with h3 | h3
  · exact h3
  · exact absurd (Pl.code_inj (hok a ha) (hok b hb) (by have := h.1; omega)) h.2
theorem nodup_len {ps L : List Pl} (hn : ps.Nodup) (hm : ∀ x, x ∈ ps ↔ x ∈ L) : ps.length ≤ L.length := hn.length_le_of_subset (fun x hx => (hm x).1 hx)
set_option maxRecDepth 100000 in
set_option maxHeartbeats 1000000 in
/-- slices.SortedFunc over the keys of a map of places -/
theorem sortedfunc_calls (L : List Pl) (hL : ∀ x ∈ L, x.Ok) (b nn Bm : Nat) (hnn : nn < 1000000) (hl : L.length < 1000000) (w : World) (hBm : Bm < w.heap.size) (hm : w.cell? ⟨Bm, 0, none⟩ = some (.map (some b))) (hown : OwnsP w b nn L) :
    Calls Try.prog 18 #[.func (.func 33) #[] #[.pointer (some ⟨Bm, 0, none⟩)], .func (.func 20) #[] #[]] w fun e w' => ∃ (v : Value) (qs : List Pl), e = .returned v ∧ Rises L qs ∧ w'.ownsRow w.heap.size 50 25 v qs.length (qs.flatMap plC) ∧ Below w.heap.size w w' := by
  refine (callsIn_wide (n := 10)).1 ?_
  have hseq := keys_stops Fence.wide 7 trivial rfl (by decide) Bm b nn L hL w hBm hm hown
  have hcol := collect_in Fence.wide 9 trivial trivial rfl (by decide) 33 _ trivial (enters_of Try.func33 (by kernel_rfl) rfl) _ _ nn hnn w hseq
  have HC := Lib.hid hcol
  clear hcol hseq hm hown
  refine callsIn_of_wp Try.func18 rfl trivial ?_ rfl
  simp only [Try.ntmps18, List.size_toArray, List.length_cons, List.length_nil, Nat.reduceAdd, Nat.reduceSub, Array.replicate_succ, Array.replicate_zero, List.push_toArray, List.append_toArray, List.nil_append, List.cons_append]
  gi_wp2_with (refine ⟨trivial, ?_⟩; gi_at_call 31; refine HC.out.mono ?_; rintro e W ⟨v, ps, rfl, ⟨hn, hmm⟩, hrow, hb⟩)
  have hps : ∀ p ∈ ps, p.Ok := fun p hp => hL p ((hmm p).1 hp)
  have hlen : ps.length < 1000000 := by have := nodup_len hn hmm; omega
  have hsf := Lib.hid ((callsIn_wide (n := 9)).2 (sortfunc_calls ps hps hlen v w.heap.size W hrow))
  have HB := Lib.hid hb
  have HM := Lib.hid hmm
  have HN := Lib.hid hn
  have HR := Lib.hid hrow
  clear hb hmm hn hrow
  gi_wp2_with (refine ⟨trivial, ?_⟩; gi_at_call 32; refine hsf.out.mono ?_; rintro e W2 ⟨rfl, qs, hp, hs, hrow2, hg⟩)
  go_ret
  refine ⟨v, qs, rfl, rises_of hL HN.out HM.out hp hs, hrow2, HB.out.grown hg HB.out.size (fun j hj => HR.out.lt j hj |>.1)⟩
end Go.Proofs.Ytbkhldaomalmoaa
