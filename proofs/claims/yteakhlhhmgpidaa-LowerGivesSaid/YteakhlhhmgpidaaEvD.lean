/- The model's steps on memory and on types, as the evaluation needs them. -/
import Derived.Test.YteakhlhhmgpidaaEvC
import Derived.Laws.Cells
import Derived.Laws.Entries
import Derived.ChangeKeysEq
namespace Go.Ev
open Go Go.RowKit
set_option linter.unusedVariables false
set_option linter.unusedSimpArgs false

section
variable {P : Program} {w : World}

theorem known_out {t : TypeId} (h : known P t = true) : ∃ i, P.info? t = some i := by
  unfold known at h; exact Option.isSome_iff_exists.1 h
theorem run_sizeOf' {t : TypeId} (h : known P t = true) (w : World) : (sizeOf t).run P w = .ok (P.cellsOf t) w := by
  obtain ⟨i, hi⟩ := known_out h
  simp [sizeOf, typeInfo, hi, Program.cellsOf]
theorem underlying_known {t : TypeId} {d : TypeDesc} (h : P.underlying t = some d) : known P t = true := by
  unfold known
  unfold Program.underlying at h
  cases e : P.info? t with
  | none => simp [e] at h
  | some i => rfl
theorem run_isAgg {t : TypeId} {d : TypeDesc} (h : P.underlying t = some d) (w : World) : (isAgg t).run P w = .ok (aggDesc d) w := by
  cases d <;> simp [isAgg, run_underlying h, aggDesc]
theorem run_zeroValue {t : TypeId} {i : TypeInfo} {v : Value} (hi : P.info? t = some i) (hz : i.zero = some v) (w : World) : (zeroValue t).run P w = .ok v w := by
  simp [zeroValue, typeInfo, hi, hz]

theorem addr_add (b off n : Nat) : (Addr.mk b off none).add n = ⟨b, off + n, none⟩ := by
  unfold Addr.add
  split
  · rename_i h; subst h; simp
  · rfl

/-- A row of cells is loaded. -/
theorem run_loadCells' (b off : Nat) (vs : Array Value) (h : ∀ j v, vs[j]? = some v → w.cell? ⟨b, off + j, none⟩ = some v) :
    (loadCells ⟨b, off, none⟩ vs.size).run P w = .ok vs w := by
  have := run_loadCells_list (P := P) (w := w) ⟨b, off, none⟩ vs.toList (fun j v hj => by rw [addr_add]; exact h j v (by simpa using hj))
  simpa using this

/-- Cells written one behind the other. -/
def putCells (vs : Array Value) (off : Nat) : List Value → Array Value
  | [] => vs
  | x :: r => putCells (vs.setIfInBounds off x) (off + 1) r
theorem putCells_size (l : List Value) : ∀ (vs : Array Value) (off : Nat), (putCells vs off l).size = vs.size := by
  induction l with
  | nil => intro vs off; rfl
  | cons x r ih => intro vs off; simp [putCells, ih]
theorem putCells_get (l : List Value) : ∀ (vs : Array Value) (off k : Nat), off + l.length ≤ vs.size →
    (putCells vs off l)[k]? = if off ≤ k ∧ k < off + l.length then l[k - off]? else vs[k]? := by
  induction l with
  | nil => intro vs off k _; rw [putCells, if_neg (by intro h; have h1 := h.1; have h2 : k < off + 0 := h.2; omega)]
  | cons x r ih =>
    intro vs off k h
    simp only [List.length_cons] at h
    rw [putCells, ih _ _ _ (by simp; omega)]
    by_cases h1 : off + 1 ≤ k ∧ k < off + 1 + r.length
    · rw [if_pos h1, if_pos ⟨by omega, by simp; omega⟩]
      rw [show k - off = (k - (off + 1)) + 1 by omega, List.getElem?_cons_succ]
    · rw [if_neg h1]
      by_cases h2 : k = off
      · subst h2
        rw [if_pos ⟨by omega, by simp⟩]
        simp [show k < vs.size by omega]
      · rw [if_neg (by simp; omega), Array.getElem?_setIfInBounds_ne (Ne.symm h2)]

theorem putBlock_twice {w : World} {b : Nat} {o p : Obj} : putBlock (putBlock w b o) b p = putBlock w b p := by
  unfold putBlock
  simp

theorem setCell_block {w : World} {b o : Nat} {v : Value} {vs : Array Value} {ty : TypeId} {fz : Nat × Nat} (h : w.heap[b]? = some (.cells vs ty fz)) :
    w.setCell ⟨b, o, none⟩ v = putBlock w b (.cells (vs.setIfInBounds o v) ty fz) := by
  have hb := lt_of_heap h
  have he : w.heap[b] = .cells vs ty fz := by simpa [Array.getElem?_eq_getElem hb] using h
  unfold World.setCell putBlock
  congr 1
  apply Array.ext_getElem?
  intro k
  rw [Array.getElem?_modify]
  by_cases e : b = k
  · subst e
    rw [if_pos rfl, h]
    simp [hb]
  · rw [if_neg e, Array.getElem?_setIfInBounds_ne e]

theorem run_storeCells' {b off : Nat} {ty : TypeId} {fz : Nat × Nat} (l : List Value) : ∀ (i : Nat) (w : World) (vs : Array Value), w.heap[b]? = some (.cells vs ty fz) → (∀ v ∈ l, v.oneCell' = true) →
    off + i + l.length ≤ vs.size → unfrozen fz vs.size → (storeCells ⟨b, off, none⟩ l i).run P w = .ok () (putBlock w b (.cells (putCells vs (off + i) l) ty fz)) := by
  induction l with
  | nil =>
    intro i w vs h _ _ _
    simp only [storeCells, Sem.run_pure, putCells]
    have hb := lt_of_heap h
    have he : w.heap.setIfInBounds b (.cells vs ty fz) = w.heap := by
      apply Array.ext_getElem?
      intro k
      by_cases e : b = k
      · subst e; rw [h]; simp [hb]
      · rw [Array.getElem?_setIfInBounds_ne e]
    unfold putBlock
    rw [he]
  | cons x r ih =>
    intro i w vs h hone hlen hfz
    simp only [List.length_cons] at hlen
    have hlt : off + i < vs.size := by omega
    have hcell : w.cell? ⟨b, off + i, none⟩ = some vs[off + i] := by simp [World.cell?, h, hlt]
    have hfr : w.frozen? ⟨b, off + i, none⟩ = false := by
      have := hfz _ hlt
      simp only [World.frozen?, h]
      simpa using this
    simp only [storeCells, Sem.run_bind, addr_add]
    rw [run_store _ _ _ _ _ (hone x (by simp)), hcell]
    simp only [hfr, Bool.false_eq_true, if_false, Result.andThen_ok]
    rw [setCell_block h]
    rw [ih (i + 1) _ (vs.setIfInBounds (off + i) x) (putBlock_same h) (fun v hv => hone v (by simp [hv])) (by simp; omega) (by simpa using hfz)]
    rw [putBlock_twice]
    simp [putCells, Nat.add_assoc]

/-- 'part' of cells. -/
theorem run_part_one {t : TypeId} {d : TypeDesc} (h : P.underlying t = some d) (ha : aggDesc d = false) {cs : Array Value} {off : Nat} {v : Value} (hv : cs[off]? = some v) (w : World) : (part t cs off).run P w = .ok v w := by
  simp [part, run_isAgg h, ha, hv]
theorem run_part_agg {t : TypeId} {d : TypeDesc} (h : P.underlying t = some d) (ha : aggDesc d = true) (cs : Array Value) (off : Nat) (w : World) : (part t cs off).run P w = .ok (.agg (cs.extract off (off + P.cellsOf t))) w := by
  simp [part, run_isAgg h, ha, run_sizeOf' (underlying_known h)]

/-- 'loadVar' of a known row. -/
theorem run_loadVar_one {t : TypeId} {d : TypeDesc} (h : P.underlying t = some d) (ha : aggDesc d = false) {a : Addr} {v : Value} (hv : w.cell? a = some v) : (loadVar t a).run P w = .ok v w := by
  simp [loadVar, run_isAgg h, ha, hv]
theorem run_loadVar_agg {t : TypeId} {d : TypeDesc} (h : P.underlying t = some d) (ha : aggDesc d = true) {b off : Nat} (vs : Array Value) (hs : vs.size = P.cellsOf t)
    (hv : ∀ j v, vs[j]? = some v → w.cell? ⟨b, off + j, none⟩ = some v) : (loadVar t ⟨b, off, none⟩).run P w = .ok (.agg vs) w := by
  simp [loadVar, run_isAgg h, ha, run_sizeOf' (underlying_known h), ← hs, run_loadCells' b off vs hv]
end

/-! ### Lists and arrays that stand for one another -/
theorem RepL.get {M : MM} {cs : List D} {vs : Array Value} (h : RepL M cs vs) {i : Nat} {d : D} (hd : cs[i]? = some d) : ∃ v, vs[i]? = some v ∧ Rep M d v := by
  have hi : i < vs.size := by
    rw [← h.1]
    rcases Nat.lt_or_ge i cs.length with x | x
    · exact x
    · simp [List.getElem?_eq_none x] at hd
  exact ⟨vs[i], by simp [hi], h.2 i d vs[i] hd (by simp [hi])⟩

theorem RepL.sub {M : MM} {cs : List D} {vs : Array Value} (h : RepL M cs vs) (off n : Nat) (hn : off + n ≤ cs.length) : RepL M ((cs.drop off).take n) (vs.extract off (off + n)) := by
  have hs := h.1
  refine ⟨by simp; omega, fun i d v a b => ?_⟩
  rw [List.getElem?_take] at a
  split at a
  · rename_i hi
    rw [List.getElem?_drop] at a
    rw [Array.getElem?_extract] at b
    split at b
    · exact h.2 _ d v a b
    · cases b
  · cases a

theorem repScal {M : MM} {v : Value} {d : D} (h : scalD v = some d) : Rep M d v := by
  unfold scalD at h
  split at h <;> simp only [Option.some.injEq, reduceCtorEq] at h <;> subst h
  · exact .bool _
  · exact .int _ _
  · exact .str _
  · exact .nilp
  · exact .lst 0 0 (fun _ _ => .nilFunc) rfl (Nat.le_refl _) (fun h => absurd rfl h) (fun i x h => by simp at h) (fun i x cs j c h => by simp at h) (fun i x cs j c h => by simp at h) (fun i x cs c h => by simp at h) rfl
  · exact .nilf
theorem repScalL {M : MM} : ∀ {vs : List Value} {l : List D}, scalL vs = some l → l.length = vs.length ∧ ∀ (i : Nat) (d : D) (v : Value), l[i]? = some d → vs[i]? = some v → Rep M d v
  | [], l, h => by
    simp only [scalL, Option.some.injEq] at h; subst h; exact ⟨rfl, fun i d v a => by simp at a⟩
  | v :: r, l, h => by
    unfold scalL at h
    split at h
    · rename_i d l' hd hl
      simp only [Option.some.injEq] at h
      subst h
      obtain ⟨h1, h2⟩ := repScalL (M := M) hl
      refine ⟨by simp [h1], fun i d' v' a b => ?_⟩
      cases i with
      | zero => simp at a b; subst a b; exact repScal hd
      | succ i => exact h2 i d' v' (by simpa using a) (by simpa using b)
    · cases h
theorem rep_valD {M : MM} (v : Value) : Rep M (valD v) v := by
  unfold valD
  split
  · rename_i cs
    split
    · rename_i l hl
      obtain ⟨h1, h2⟩ := repScalL (M := M) hl
      exact .agg (by simpa using h1) (fun i d v a b => h2 i d v a (by simpa using b))
    · exact .undef _
  · split
    · rename_i d hd; exact repScal hd
    · exact .undef _

theorem rep_opnd {M : MM} {t : List D} {a : Act} (h : RepL M t a.tmps) (x : Operand) : Rep M (opnd t x) (a.eval x) := by
  cases x with
  | tmp i =>
    show Rep M (t.getD i .undef) (a.tmps.getD i undef)
    cases e : t[i]? with
    | none => rw [List.getD_eq_getElem?_getD, e]; exact .undef _
    | some d =>
      obtain ⟨v, hv, hr⟩ := h.get e
      rw [List.getD_eq_getElem?_getD, e, Array.getD_eq_getD_getElem?, hv]
      exact hr
  | const v => exact rep_valD v
  | global g => exact .undef _
  | func f => exact .fn (M := M) (first := []) (cap := []) rfl rfl (fun i d v a => by simp at a) (fun i d v a => by simp at a)

theorem storable_one {M : MM} {d : D} {v : Value} (h : Rep M d v) (hs : storable d = true) : v.oneCell' = true := by
  cases h <;> first | rfl | (simp [storable] at hs)

theorem splice_get {cs xs : List D} {off k : Nat} (h : off + xs.length ≤ cs.length) : (splice cs off xs)[k]? = if off ≤ k ∧ k < off + xs.length then xs[k - off]? else cs[k]? := by
  unfold splice
  rw [List.getElem?_append]
  simp only [List.length_take, show min off cs.length = off by omega]
  by_cases h1 : k < off
  · rw [if_pos h1, if_neg (by omega), List.getElem?_take, if_pos h1]
  · rw [if_neg h1, List.getElem?_append]
    by_cases h2 : k - off < xs.length
    · rw [if_pos h2, if_pos ⟨by omega, by omega⟩]
    · rw [if_neg h2, if_neg (by omega), List.getElem?_drop]
      congr 1
      omega
theorem splice_len {cs xs : List D} {off : Nat} (h : off + xs.length ≤ cs.length) : (splice cs off xs).length = cs.length := by
  unfold splice
  simp
  omega

theorem repL_splice {M : MM} {cs xs : List D} {vs ws : Array Value} {off : Nat} (h : RepL M cs vs) (k : RepL M xs ws) (hl : off + xs.length ≤ cs.length) : RepL M (splice cs off xs) (putCells vs off ws.toList) := by
  refine ⟨by rw [splice_len hl, putCells_size, h.1], fun i d v a b => ?_⟩
  have hs : off + ws.toList.length ≤ vs.size := by rw [← h.1, Array.length_toList, ← k.1]; exact hl
  rw [splice_get hl] at a
  rw [putCells_get _ _ _ _ hs] at b
  have : ws.toList.length = xs.length := by rw [Array.length_toList, ← k.1]
  rw [this] at b
  split at a
  · rename_i hc
    rw [if_pos hc] at b
    exact k.2 _ d v a (by simpa using b)
  · rename_i hc
    rw [if_neg hc] at b
    exact h.2 _ d v a b

theorem getD_bare (C : Nat → Nat → Option Value) (M : MM) (h : M.cell = C) : M.bare = bareOf C := by subst h; rfl

end Go.Ev
