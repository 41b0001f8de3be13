/- Places as keys of a map. -/
import Derived.Test.YtbkhldaomalmoaaPut
import Derived.DeepKeys4
import Derived.Maps.OwnSet
import Derived.Maps.Ext
namespace Go.Proofs.Ytbkhldaomalmoaa
open Go.RowKit Go.Maps

theorem key_row : (50 : TypeId) < Try.prog.types.size := of_decide_eq_true (by kernel_rfl)
theorem key_wide : (match Try.prog.underlying 50 with | some (.array _ _) | some (.struct _) => true | _ => false) = true := by rw [Try.underlying50]
theorem key_laid : laidOutB Try.prog = true := by kernel_rfl
theorem key_at : Try.prog.keyTypeAt 3 50 = true := by kernel_rfl
set_option maxRecDepth 100000 in
theorem keyed : Keyed Try.prog 50 := Keyed.of_law (deep_law_laid key_laid (m := 3) (by omega) key_row key_at key_wide)
theorem key_type : Try.prog.keyType 50 = true := by kernel_rfl
theorem key_cells : Try.prog.cellsOf 50 = 25 := by kernel_rfl
theorem key_cellsA : Try.prog.cellsOf 33 = 20 := by kernel_rfl
theorem key_cellsW : Try.prog.cellsOf 36 = 4 := by kernel_rfl
theorem key_cellsB : Try.prog.cellsOf 4 = 1 := by kernel_rfl
theorem key_cells8 : Try.prog.cellsOf 5 = 1 := by kernel_rfl
theorem key_cells64 : Try.prog.cellsOf 34 = 1 := by kernel_rfl
theorem mapM_some {α β : Type} (f : α → Option β) : ∀ l : List α, (∀ x ∈ l, ∃ y, f x = some y) → ∃ ys, l.mapM f = some ys
  | [], _ => ⟨[], rfl⟩
  | x :: l, h => by
    obtain ⟨y, hy⟩ := h x List.mem_cons_self
    obtain ⟨ys, hys⟩ := mapM_some f l (fun z hz => h z (List.mem_cons_of_mem _ hz))
    exact ⟨y :: ys, by simp [List.mapM_cons, hy, hys]⟩
theorem wf_u8 (n a i : Nat) : (Lit.int .u8 (byteOf n a i)).wf = true := by
  have h := byteOf_bd n a i
  have h1 : IntKind.u8.min = 0 := rfl
  have h2 : IntKind.u8.max = 255 := rfl
  simp only [Lit.wf, h1, h2, Bool.and_eq_true, decide_eq_true_eq]
  omega
theorem wf_u64 (v i : Nat) : (Lit.int .u64 (limb v i)).wf = true := by
  have h := limb_bd v i
  have h1 : IntKind.u64.min = 0 := rfl
  have h2 : IntKind.u64.max = 18446744073709551615 := rfl
  simp only [Lit.wf, h1, h2, Bool.and_eq_true, decide_eq_true_eq]
  omega
theorem lits_arr {P : Program} {d : Nat} {t e : TypeId} {n : Nat} {cs : List Value} (h : P.underlying t = some (.array n e)) (hl : cs.length = P.cellsOf t) :
    P.keyLits (d + 1) t cs = ((List.range n).mapM fun i => P.keyLits d e ((cs.drop (i * P.cellsOf e)).take (P.cellsOf e))).map List.flatten := by
  rw [Program.keyLits.eq_def]
  simp only [h, hl, if_true]
theorem lits_struct {P : Program} {d : Nat} {t : TypeId} {fs : Array Field} {cs : List Value} (h : P.underlying t = some (.struct fs)) (hl : cs.length = P.cellsOf t) (hb : fs.all (·.name != "_") = true) :
    P.keyLits (d + 1) t cs = (fs.toList.mapM fun f => P.keyLits d f.type ((cs.drop f.offset).take (P.cellsOf f.type))).map List.flatten := by
  rw [Program.keyLits.eq_def]
  simp only [h, hl, hb, and_self, if_true]
theorem lits_u8 (d n a i : Nat) : Try.prog.keyLits (d + 1) 5 [.int .u8 (byteOf n a i)] = some [.int .u8 (byteOf n a i)] := by
  simp only [Program.keyLits, Try.underlying5]
  simp [wf_u8]
theorem lits_u64 (d v i : Nat) : Try.prog.keyLits (d + 1) 34 [.int .u64 (limb v i)] = some [.int .u64 (limb v i)] := by
  simp only [Program.keyLits, Try.underlying34]
  simp [wf_u64]
theorem drop_take_one {cs : List Value} {i : Nat} {u : Value} (h : cs[i]? = some u) : (cs.drop i).take 1 = [u] := by
  obtain ⟨hi, rfl⟩ := List.getElem?_eq_some_iff.1 h
  rw [List.drop_eq_getElem_cons hi]; rfl
theorem lits_addr (d a : Nat) : ∃ l, Try.prog.keyLits (d + 2) 33 (aC a) = some l := by
  rw [lits_arr Try.underlying33 (by rw [aC_len, key_cellsA])]
  simp only [key_cells8]
  obtain ⟨ys, hys⟩ := mapM_some (fun i => Try.prog.keyLits (d + 1) 5 (((aC a).drop (i * 1)).take 1)) (List.range 20) (fun i hi => by
    have := List.mem_range.1 hi
    rw [Nat.mul_one, drop_take_one (aC_get a i this), lits_u8]; exact ⟨_, rfl⟩)
  rw [hys]; exact ⟨_, rfl⟩
theorem lits_word (d v : Nat) : ∃ l, Try.prog.keyLits (d + 2) 36 (wC v) = some l := by
  rw [lits_arr Try.underlying36 (by rw [wC_len, key_cellsW])]
  simp only [key_cells64]
  obtain ⟨ys, hys⟩ := mapM_some (fun i => Try.prog.keyLits (d + 1) 34 (((wC v).drop (i * 1)).take 1)) (List.range 4) (fun i hi => by
    have := List.mem_range.1 hi
    have h2 : (wC v)[i]? = some (.int .u64 (limb v i)) := by rcases (show i = 0 ∨ i = 1 ∨ i = 2 ∨ i = 3 by omega) with rfl | rfl | rfl | rfl <;> rfl
    rw [Nat.mul_one, drop_take_one h2, lits_u64]; exact ⟨_, rfl⟩)
  rw [hys]; exact ⟨_, rfl⟩
theorem plC_drop0 (p : Pl) : ((plC p).drop 0).take 20 = aC p.addr := by
  rw [List.drop_zero, plC, List.append_assoc, List.take_append_of_le_length (by rw [aC_len]; omega), List.take_of_length_le (by rw [aC_len]; omega)]
theorem plC_drop20 (p : Pl) : ((plC p).drop 20).take 1 = [.bool p.whole] := drop_take_one (plC_whole p)
theorem plC_drop21 (p : Pl) : ((plC p).drop 21).take 4 = wC p.key := by
  have h : (aC p.addr ++ [Value.bool p.whole]).length = 21 := by simp [aC_len]
  rw [plC, List.drop_append, List.drop_of_length_le (by omega), h]; rfl
theorem key_is (p : Pl) : ∃ l, keyOf Try.prog 50 (plV p) = some l := by
  obtain ⟨la, hla⟩ := lits_addr (Try.prog.types.size - 2) p.addr
  obtain ⟨lw, hlw⟩ := lits_word (Try.prog.types.size - 2) p.key
  have hsz : 2 < Try.prog.types.size := of_decide_eq_true (by kernel_rfl)
  rw [show Try.prog.types.size - 2 + 2 = Try.prog.types.size by omega] at hla hlw
  have hf : (plV p).formed Try.prog 50 = true := by
    simp only [plV, Value.formed, Try.underlying50, key_cells, List.size_toArray, plC_len]; rfl
  have hb : Try.prog.keyLits Try.prog.types.size 4 [.bool p.whole] = some [.bool p.whole] := by
    obtain ⟨n, hn⟩ : ∃ n, Try.prog.types.size = n + 1 := ⟨Try.prog.types.size - 1, by omega⟩
    rw [hn]
    simp only [Program.keyLits, Try.underlying4]
  have hS : Try.prog.underlying 50 = some (.struct (Try.prog.fieldsOf 50)) := by kernel_rfl
  have h1 := lits_struct (d := Try.prog.types.size) (cs := plC p) hS (by rw [plC_len, key_cells]) (by kernel_rfl)
  simp only [Program.fieldsOf, Try.underlying50, key_cellsA, key_cellsW, key_cellsB, List.mapM_cons, List.mapM_nil, plC_drop0, plC_drop20, plC_drop21, hla, hlw, hb] at h1
  have h2 : (plV p).cells.toList = plC p := rfl
  unfold keyOf
  rw [hS]
  simp only [key_type, hf, Bool.and_self, if_true, h2]
  rw [h1]
  exact ⟨_, rfl⟩
/-- what a place reads as, as a key -/
noncomputable def plLit (p : Pl) : Lit := Classical.choose (key_is p)
theorem key_lit (p : Pl) : keyOf Try.prog 50 (plV p) = some (plLit p) := Classical.choose_spec (key_is p)
set_option maxRecDepth 100000 in
theorem plV_inj {p q : Pl} (hp : p.Ok) (hq : q.Ok) (h : plV p = plV q) : p = q := by
  have h1 := eqP hp hq ({ heap := #[], tape := fun _ _ => 0, drawn := 0, os := default, output := #[] } : World)
  have h2 := eqP hp hp ({ heap := #[], tape := fun _ _ => 0, drawn := 0, os := default, output := #[] } : World)
  rw [← h] at h1
  rw [h1] at h2
  simpa using h2
set_option maxRecDepth 100000 in
theorem plLit_inj {p q : Pl} (hp : p.Ok) (hq : q.Ok) (h : plLit p = plLit q) : p = q := by
  have h1 := key_lit p
  have h2 := key_lit q
  rw [← h] at h2
  exact plV_inj hp hq (keyed.inj h1 h2)
/-- a set of places, as a map's datum -/
noncomputable def setP (L : List Pl) : DataW Unit := setOf (.agg []) (L.map plLit)
theorem setP_snoc (L : List Pl) (p : Pl) : setP (L ++ [p]) = (setP L).put (plLit p) (.agg []) := by
  rw [setP, List.map_append, List.map_cons, List.map_nil, setOf_snoc]; rfl
set_option maxRecDepth 100000 in
theorem setP_keys (L : List Pl) : ∀ x ∈ L.map plLit, WideAt.IsKeyLit x := fun x hx => by
  obtain ⟨p, _, rfl⟩ := List.mem_map.1 hx
  exact keyed.key (key_lit p)
set_option maxRecDepth 100000 in
theorem has_setP (L : List Pl) (k : Lit) : has (setP L) k = true ↔ ∃ p ∈ L, plLit p = k := by
  rw [setP, has_setOf _ _ _ (setP_keys L), List.any_eq_true]
  constructor
  · rintro ⟨x, hx, hk⟩
    obtain ⟨p, hp, rfl⟩ := List.mem_map.1 hx
    refine ⟨p, hp, ?_⟩
    by_cases e : plLit p = k
    · exact e
    · rw [sameKey_ne e] at hk; cases hk
  · rintro ⟨p, hp, rfl⟩
    exact ⟨_, List.mem_map.2 ⟨p, hp, rfl⟩, WideAt.sameKey_self (keyed.key (key_lit p))⟩
theorem has_setP_mem {L : List Pl} (hL : ∀ x ∈ L, x.Ok) {p : Pl} (hp : p.Ok) : has (setP L) (plLit p) = true ↔ p ∈ L := by
  rw [has_setP]
  constructor
  · rintro ⟨q, hq, h⟩
    rwa [← plLit_inj (hL q hq) hp h]
  · intro h; exact ⟨p, h, rfl⟩
/-- block b is a map that holds the places L, of at most n entries -/
noncomputable def OwnsP (w : World) (b n : Nat) (L : List Pl) : Prop := w.ownsMap Try.prog 50 (unitElem (H := Unit)) b n (setP L)
end Go.Proofs.Ytbkhldaomalmoaa
