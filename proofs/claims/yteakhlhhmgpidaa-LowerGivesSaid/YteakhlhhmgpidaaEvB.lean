/- The evaluator's store, how it stands to the model's world (WRel), and how each change of the world keeps that. No program is in sight here. -/
import Derived.Test.YteakhlhhmgpidaaEvA
import Derived.Laws.World
import Derived.Laws.Sem
namespace Go.Ev
open Go Go.RowKit
set_option linter.unusedVariables false
set_option linter.unusedSimpArgs false

/-- What the evaluator's store holds: a box of cells; a family of slices (its newest version, its element's size). -/
inductive Ob where
  | dead
  | box (cs : List D)
  | fam (ver sz : Nat)

def upd (σ : Nat → Ob) (id : Nat) (o : Ob) : Nat → Ob := fun i => if i = id then o else σ i
theorem upd_same (σ : Nat → Ob) (id : Nat) (o : Ob) : upd σ id o id = o := by simp [upd]
theorem upd_other {σ : Nat → Ob} {id i : Nat} {o : Ob} (h : i ≠ id) : upd σ id o i = σ i := by simp [upd, h]

def unfrozen (fz : Nat × Nat) (n : Nat) : Prop := ∀ o, o < n → ¬ (fz.1 ≤ o ∧ o < fz.2)

/-- Where an evaluation began: the world, and what was known of its cells. -/
structure Base where
  w : World
  C : Nat → Nat → Option Value

structure BoxOK (w0 : Base) (M : MM) (own : Nat → Option Nat) (id : Nat) (cs : List D) (w : World) (b : Nat) (vs : Array Value) (ty : TypeId) : Prop where
  box : M.box id = some b
  base : w0.w.heap.size ≤ b
  own : own b = some id
  none : ∀ o, M.cell b o = none
  blk : w.heap[b]? = some (.cells vs ty (0, 0))
  len : cs.length = vs.size
  rep : ∀ (i : Nat) (d : D) (v : Value), cs[i]? = some d → vs[i]? = some v → Rep M d v

structure RoomOK (w0 : Base) (M : MM) (own : Nat → Option Nat) (id sz : Nat) (w : World) (len cap b : Nat) (vs : Array Value) (ty : TypeId) (fz : Nat × Nat) : Prop where
  base : w0.w.heap.size ≤ b
  own : own b = some id
  blk : w.heap[b]? = some (.cells vs ty fz)
  fz : unfrozen fz vs.size
  cap : cap * sz ≤ vs.size
  none : ∀ o, len * sz ≤ o → M.cell b o = none

structure FamOK (w0 : Base) (M : MM) (own : Nat → Option Nat) (id ver sz : Nat) (w : World) (a : Option Addr) (len cap : Nat) : Prop where
  hist : M.hist id ver = some (.slice a len cap)
  last : ∀ v, ver < v → M.hist id v = none
  room : cap = len ∨ ∃ b vs ty fz, a = some ⟨b, 0, none⟩ ∧ RoomOK w0 M own id sz w len cap b vs ty fz

structure WRel (w0 : Base) (M : MM) (own : Nat → Option Nat) (σ : Nat → Ob) (w : World) : Prop where
  below : Below w0.w.heap.size w0.w w
  cells : ∀ b o v, M.cell b o = some v → w.cell? ⟨b, o, none⟩ = some v
  old : ∀ b o v, M.cell b o = some v → b < w0.w.heap.size → w0.C b o = some v
  owned : ∀ b id, own b = some id → b < w.heap.size
  box : ∀ id cs, σ id = .box cs → ∃ b vs ty, BoxOK w0 M own id cs w b vs ty
  fam : ∀ id ver sz, σ id = .fam ver sz → ∃ a len cap, FamOK w0 M own id ver sz w a len cap

/-- Nothing that was there has turned; the view has grown by new blocks alone. -/
structure Ext (M : MM) (w : World) (M' : MM) (w' : World) : Prop where
  below : Below w.heap.size w w'
  cell : ∀ b o v, M.cell b o = some v → M'.cell b o = some v
  only : ∀ b o v, M'.cell b o = some v → b < w.heap.size → M.cell b o = some v
  cells : ∀ b o v, M'.cell b o = some v → w'.cell? ⟨b, o, none⟩ = some v

theorem heap_below {w w' : World} (h : Below w.heap.size w w') {b : Nat} {o : Obj} (hb : w.heap[b]? = some o) : w'.heap[b]? = some o := by
  rw [h.block b ?_, hb]
  rcases Nat.lt_or_ge b w.heap.size with h | h
  · exact h
  · simp [Array.getElem?_eq_none h] at hb

theorem lt_of_heap {w : World} {b : Nat} {o : Obj} (hb : w.heap[b]? = some o) : b < w.heap.size := by
  rcases Nat.lt_or_ge b w.heap.size with h | h
  · exact h
  · simp [Array.getElem?_eq_none h] at hb

theorem none_of_only {C C' : Nat → Nat → Option Value} {n b o : Nat} (only : ∀ b o v, C' b o = some v → b < n → C b o = some v) (hb : b < n) (h : C b o = none) : C' b o = none := by
  cases e : C' b o with
  | none => rfl
  | some v => rw [only b o v e hb] at h; cases h

theorem WRel.ext {w0 : Base} {w w' : World} {M M' : MM} {own : Nat → Option Nat} {σ : Nat → Ob} (h : WRel w0 M own σ w) (e : Ext M w M' w')
    (hbox : M'.box = M.box) (hhist : M'.hist = M.hist) : WRel w0 M' own σ w' ∧ M.Le M' := by
  have le : M.Le M' := ⟨e.cell, fun id b h => by rw [hbox]; exact h, fun t v x h => by rw [hhist]; exact h⟩
  refine ⟨⟨?_, e.cells, ?_, ?_, ?_, ?_⟩, le⟩
  · exact h.below.trans (e.below.mono h.below.size)
  · exact fun b o v k hb => h.old b o v (e.only b o v k (Nat.lt_of_lt_of_le hb h.below.size)) hb
  · exact fun b id k => Nat.lt_of_lt_of_le (h.owned b id k) e.below.size
  · intro id cs hs
    obtain ⟨b, vs, ty, k⟩ := h.box id cs hs
    exact ⟨b, vs, ty, by rw [hbox]; exact k.box, k.base, k.own, fun o => none_of_only e.only (lt_of_heap k.blk) (k.none o), heap_below e.below k.blk, k.len, fun i d v a b => (k.rep i d v a b).mono le⟩
  · intro id ver sz hs
    obtain ⟨a, len, cap, k⟩ := h.fam id ver sz hs
    refine ⟨a, len, cap, by rw [hhist]; exact k.hist, by rw [hhist]; exact k.last, ?_⟩
    rcases k.room with r | ⟨b, vs, ty, fz, ha, r⟩
    · exact .inl r
    · exact .inr ⟨b, vs, ty, fz, ha, r.base, r.own, heap_below e.below r.blk, r.fz, r.cap, fun o ho => none_of_only e.only (lt_of_heap r.blk) (r.none o ho)⟩

/-- A draw. -/
theorem WRel.drew {w0 : Base} {w : World} {M : MM} {own : Nat → Option Nat} {σ : Nat → Ob} (h : WRel w0 M own σ w) : WRel w0 M own σ w.drew :=
  ⟨h.below.drew, h.cells, h.old, h.owned, fun id cs e => let ⟨b, vs, ty, k⟩ := h.box id cs e; ⟨b, vs, ty, k.box, k.base, k.own, k.none, k.blk, k.len, k.rep⟩,
    fun id ver sz e => let ⟨a, len, cap, k⟩ := h.fam id ver sz e; ⟨a, len, cap, k.hist, k.last, k.room.imp (fun x => x) fun ⟨b, vs, ty, fz, ha, r⟩ => ⟨b, vs, ty, fz, ha, r.base, r.own, r.blk, r.fz, r.cap, r.none⟩⟩⟩

/-- A dead entry asks for nothing. -/
theorem WRel.kill {w0 : Base} {w : World} {M : MM} {own : Nat → Option Nat} {σ : Nat → Ob} (h : WRel w0 M own σ w) (id : Nat) : WRel w0 M own (upd σ id .dead) w := by
  refine ⟨h.below, h.cells, h.old, h.owned, ?_, ?_⟩
  · intro i cs hi
    by_cases e : i = id
    · rw [e, upd_same] at hi; cases hi
    · rw [upd_other e] at hi; exact h.box i cs hi
  · intro i v sz hi
    by_cases e : i = id
    · rw [e, upd_same] at hi; cases hi
    · rw [upd_other e] at hi; exact h.fam i v sz hi

def MM.withBox (M : MM) (id b : Nat) : MM := { M with box := fun i => if i = id then some b else M.box i }
def MM.withHist (M : MM) (id ver : Nat) (v : Value) : MM := { M with hist := fun i k => if i = id ∧ k = ver then some v else M.hist i k }
def MM.withCells (M : MM) (b : Nat) (f : Nat → Option Value) : MM := { M with cell := fun c o => if c = b then f o else M.cell c o }
def ownAt (own : Nat → Option Nat) (b id : Nat) : Nat → Option Nat := fun c => if c = b then some id else own c

theorem MM.le_withBox {M : MM} {id b : Nat} (h : M.box id = none) : M.Le (M.withBox id b) :=
  ⟨fun _ _ _ h => h, fun i c k => by by_cases e : i = id; (· rw [e, h] at k; cases k); (· simp [withBox, e, k]), fun _ _ _ h => h⟩
theorem MM.le_withHist {M : MM} {id ver : Nat} {v : Value} (h : M.hist id ver = none) : M.Le (M.withHist id ver v) :=
  ⟨fun _ _ _ h => h, fun _ _ h => h, fun i k x e => by
    by_cases c : i = id ∧ k = ver
    · rw [c.1, c.2, h] at e; cases e
    · simp only [withHist, c, if_false]; exact e⟩

theorem cell_none_of_size {w : World} {M : MM} (hc : ∀ b o v, M.cell b o = some v → w.cell? ⟨b, o, none⟩ = some v) {b : Nat} (hb : w.heap.size ≤ b) (o : Nat) : M.cell b o = none := by
  cases e : M.cell b o with
  | none => rfl
  | some v =>
    have := World.block_lt_of_cell? w _ (hc b o v e)
    have : b < w.heap.size := this
    omega

/-- A new box. -/
theorem WRel.newBox {w0 : Base} {w : World} {M : MM} {own : Nat → Option Nat} {σ : Nat → Ob} (h : WRel w0 M own σ w) {id : Nat} (hid : M.box id = none) {cs : List D} {vs : Array Value} (ty : TypeId)
    (hl : cs.length = vs.size) (hr : ∀ (i : Nat) (d : D) (v : Value), cs[i]? = some d → vs[i]? = some v → Rep M d v) :
    WRel w0 (M.withBox id w.heap.size) (ownAt own w.heap.size id) (upd σ id (.box cs)) (w.alloc (.cells vs ty)) := by
  have le := MM.le_withBox (b := w.heap.size) hid
  have hnew : ∀ o, M.cell w.heap.size o = none := cell_none_of_size h.cells (Nat.le_refl _)
  have hold : ∀ {b : Nat} {o : Obj}, w.heap[b]? = some o → (w.alloc (.cells vs ty)).heap[b]? = some o := fun {b o} hb => by
    rw [Below.heap_alloc _ _ _ (lt_of_heap hb), hb]
  have hown : ∀ {b i : Nat}, own b = some i → ownAt own w.heap.size id b = some i := fun {b i} k => by
    have := h.owned b i k
    simp [ownAt, show b ≠ w.heap.size by omega, k]
  refine ⟨h.below.alloc h.below.size _, ?_, h.old, ?_, ?_, ?_⟩
  · intro b o v k
    have k' : M.cell b o = some v := k
    rw [World.cell?_alloc_lt]
    · exact h.cells b o v k'
    · exact World.block_lt_of_cell? w _ (h.cells b o v k')
  · intro b i k
    rw [World.size_alloc]
    by_cases e : b = w.heap.size
    · omega
    · simp only [ownAt, e, if_false] at k
      have := h.owned b i k
      omega
  · intro i cs' hi
    by_cases e : i = id
    · subst e
      rw [upd_same] at hi
      cases hi
      refine ⟨w.heap.size, vs, ty, by simp [MM.withBox], h.below.size, by simp [ownAt], hnew, ?_, hl, fun j d v a b => (hr j d v a b).mono le⟩
      show (w.heap.push _)[w.heap.size]? = _
      simp
    · rw [upd_other e] at hi
      obtain ⟨b, vs', ty', k⟩ := h.box i cs' hi
      exact ⟨b, vs', ty', le.box _ _ k.box, k.base, hown k.own, k.none, hold k.blk, k.len, fun j d v a b => (k.rep j d v a b).mono le⟩
  · intro i ver sz hi
    by_cases e : i = id
    · rw [e, upd_same] at hi; cases hi
    · rw [upd_other e] at hi
      obtain ⟨a, len, cap, k⟩ := h.fam i ver sz hi
      refine ⟨a, len, cap, k.hist, k.last, ?_⟩
      rcases k.room with r | ⟨b, vs', ty', fz, ha, r⟩
      · exact .inl r
      · exact .inr ⟨b, vs', ty', fz, ha, r.base, hown r.own, hold r.blk, r.fz, r.cap, r.none⟩

/-- The block's object is replaced. -/
def putBlock (w : World) (b : Nat) (o : Obj) : World := { w with heap := w.heap.setIfInBounds b o }
theorem putBlock_same {w : World} {b : Nat} {o p : Obj} (h : w.heap[b]? = some p) : (putBlock w b o).heap[b]? = some o := by
  have := lt_of_heap h
  simp [putBlock, this]
theorem putBlock_other {w : World} {b c : Nat} {o : Obj} (h : c ≠ b) : (putBlock w b o).heap[c]? = w.heap[c]? := by
  simp [putBlock, Array.getElem?_setIfInBounds_ne (Ne.symm h)]
theorem putBlock_size (w : World) (b : Nat) (o : Obj) : (putBlock w b o).heap.size = w.heap.size := by simp [putBlock]
theorem cell?_putBlock_other {w : World} {b c o : Nat} {p : Obj} (h : c ≠ b) : (putBlock w b p).cell? ⟨c, o, none⟩ = w.cell? ⟨c, o, none⟩ := by
  simp [World.cell?, putBlock_other h]

theorem below_putBlock {n : Nat} {w0 w : World} (h : Below n w0 w) {b : Nat} (hb : n ≤ b) (o : Obj) : Below n w0 (putBlock w b o) :=
  ⟨h.os, h.tape, h.output, by rw [putBlock_size]; exact h.size, fun k hk => by rw [putBlock_other (by omega)]; exact h.block k hk⟩

/-- A box is written. -/
theorem WRel.setBox {w0 : Base} {w : World} {M : MM} {own : Nat → Option Nat} {σ : Nat → Ob} (h : WRel w0 M own σ w) {id b : Nat} {cs cs' : List D} {vs vs' : Array Value} {ty : TypeId}
    (k : BoxOK w0 M own id cs w b vs ty) (hl : cs'.length = vs'.size)
    (hr : ∀ (i : Nat) (d : D) (v : Value), cs'[i]? = some d → vs'[i]? = some v → Rep M d v) :
    WRel w0 M own (upd σ id (.box cs')) (putBlock w b (.cells vs' ty (0, 0))) := by
  refine ⟨below_putBlock h.below k.base _, ?_, h.old, ?_, ?_, ?_⟩
  · intro c o v hc
    have : c ≠ b := fun e => by rw [e, k.none o] at hc; cases hc
    rw [cell?_putBlock_other this]
    exact h.cells c o v hc
  · intro c i hc; rw [putBlock_size]; exact h.owned c i hc
  · intro i cs2 hi
    by_cases e : i = id
    · subst e
      rw [upd_same] at hi
      cases hi
      exact ⟨b, vs', ty, k.box, k.base, k.own, k.none, putBlock_same k.blk, hl, hr⟩
    · rw [upd_other e] at hi
      obtain ⟨c, vs2, ty2, k2⟩ := h.box i cs2 hi
      have : c ≠ b := fun ec => by have h1 := k2.own; rw [ec, k.own] at h1; exact e (Option.some.inj h1).symm
      exact ⟨c, vs2, ty2, k2.box, k2.base, k2.own, k2.none, by rw [putBlock_other this]; exact k2.blk, k2.len, k2.rep⟩
  · intro i ver sz hi
    by_cases e : i = id
    · rw [e, upd_same] at hi; cases hi
    · rw [upd_other e] at hi
      obtain ⟨a, len, cap, k2⟩ := h.fam i ver sz hi
      refine ⟨a, len, cap, k2.hist, k2.last, ?_⟩
      rcases k2.room with r | ⟨c, vs2, ty2, fz, ha, r⟩
      · exact .inl r
      · have : c ≠ b := fun ec => by have h1 := r.own; rw [ec, k.own] at h1; exact e (Option.some.inj h1).symm
        exact .inr ⟨c, vs2, ty2, fz, ha, r.base, r.own, by rw [putBlock_other this]; exact r.blk, r.fz, r.cap, r.none⟩

/-- A family's newest version at a header: no room behind its end, or a block of its own. -/
theorem WRel.setFam {w0 : Base} {w : World} {M : MM} {own : Nat → Option Nat} {σ : Nat → Ob} (h : WRel w0 M own σ w) {id ver : Nat} (hid : ∀ v, ver ≤ v → M.hist id v = none) {a : Option Addr} {len cap : Nat} (sz : Nat)
    (hroom : cap = len ∨ ∃ b vs ty fz, a = some ⟨b, 0, none⟩ ∧ w0.w.heap.size ≤ b ∧ (own b = none ∨ own b = some id) ∧ w.heap[b]? = some (.cells vs ty fz) ∧ unfrozen fz vs.size ∧ cap * sz ≤ vs.size ∧ ∀ o, len * sz ≤ o → M.cell b o = none) :
    ∃ own', WRel w0 (M.withHist id ver (.slice a len cap)) own' (upd σ id (.fam ver sz)) w := by
  have le := MM.le_withHist (ver := ver) (v := .slice a len cap) (hid ver (Nat.le_refl _))
  have mine : ∀ {own' : Nat → Option Nat}, (∀ b i, own b = some i → own' b = some i) → (∀ b i, own' b = some i → b < w.heap.size) →
      (cap = len ∨ ∃ b vs ty fz, a = some ⟨b, 0, none⟩ ∧ RoomOK w0 (M.withHist id ver (.slice a len cap)) own' id sz w len cap b vs ty fz) →
      WRel w0 (M.withHist id ver (.slice a len cap)) own' (upd σ id (.fam ver sz)) w := by
    intro own' hkeep howned hr
    refine ⟨h.below, h.cells, h.old, howned, ?_, ?_⟩
    · intro i cs hi
      by_cases e : i = id
      · rw [e, upd_same] at hi; cases hi
      · rw [upd_other e] at hi
        obtain ⟨b, vs, ty, k⟩ := h.box i cs hi
        exact ⟨b, vs, ty, k.box, k.base, hkeep _ _ k.own, k.none, k.blk, k.len, fun j d v a b => (k.rep j d v a b).mono le⟩
    · intro i ver' sz' hi
      by_cases e : i = id
      · subst e
        rw [upd_same] at hi
        cases hi
        refine ⟨a, len, cap, by simp [MM.withHist], ?_, hr⟩
        intro v hv
        simp only [MM.withHist, show ¬ (v = ver) by omega, and_false, if_false]
        exact hid v (by omega)
      · rw [upd_other e] at hi
        obtain ⟨a', len', cap', k⟩ := h.fam i ver' sz' hi
        refine ⟨a', len', cap', le.hist _ _ _ k.hist, ?_, ?_⟩
        · intro v hv
          simp only [MM.withHist, e, false_and, if_false]
          exact k.last v hv
        · rcases k.room with r | ⟨c, vs2, ty2, fz, ha, r⟩
          · exact .inl r
          · exact .inr ⟨c, vs2, ty2, fz, ha, r.base, hkeep _ _ r.own, r.blk, r.fz, r.cap, r.none⟩
  rcases hroom with hc | ⟨b, vs, ty, fz, ha, hbase, hfree, hblk, hfz, hcap, hnone⟩
  · exact ⟨own, mine (fun _ _ x => x) h.owned (.inl hc)⟩
  · refine ⟨ownAt own b id, mine ?_ ?_ (.inr ⟨b, vs, ty, fz, ha, hbase, by simp [ownAt], hblk, hfz, hcap, hnone⟩)⟩
    · intro c i hc
      by_cases e : c = b
      · subst e
        rcases hfree with hfree | hfree
        · rw [hfree] at hc; cases hc
        · rw [hfree] at hc; simp [ownAt]; exact Option.some.inj hc
      · simp [ownAt, e, hc]
    · intro c i hc
      by_cases e : c = b
      · rw [e]; exact lt_of_heap hblk
      · simp only [ownAt, e, if_false] at hc; exact h.owned c i hc

/-- The view that knows more cells of a block. -/
def MM.more (M : MM) (b n1 n2 : Nat) (vs : Array Value) : MM := M.withCells b fun o => if n1 ≤ o ∧ o < n2 then vs[o]? else M.cell b o
theorem MM.le_more {M : MM} {b n1 n2 : Nat} {vs : Array Value} (h : ∀ o, n1 ≤ o → M.cell b o = none) : M.Le (M.more b n1 n2 vs) := by
  refine ⟨fun c o v k => ?_, fun _ _ k => k, fun _ _ _ k => k⟩
  by_cases e : c = b
  · subst e
    simp only [more, withCells, if_true]
    rw [if_neg]
    · exact k
    · intro hh; rw [h o hh.1] at k; cases k
  · simp only [more, withCells, e, if_false]; exact k

/-- A family's room is filled. -/
theorem WRel.fillRoom {w0 : Base} {w : World} {M : MM} {own : Nat → Option Nat} {σ : Nat → Ob} (h : WRel w0 M own σ w) {id sz len cap b : Nat} {ver sz' : Nat} {vs vs' : Array Value} {ty : TypeId} {fz : Nat × Nat} (_hs : σ id = .fam ver sz')
    (r : RoomOK w0 M own id sz w len cap b vs ty fz) (n2 : Nat) (_hsize : vs'.size = vs.size) (hsame : ∀ o, o < len * sz → vs'[o]? = vs[o]?) :
    WRel w0 (M.more b (len * sz) n2 vs') own (upd σ id .dead) (putBlock w b (.cells vs' ty fz)) := by
  have le : M.Le (M.more b (len * sz) n2 vs') := MM.le_more r.none
  refine ⟨below_putBlock h.below r.base _, ?_, ?_, ?_, ?_, ?_⟩
  · intro c o v hc
    by_cases e : c = b
    · subst e
      simp only [MM.more, MM.withCells, if_true] at hc
      simp only [World.cell?, putBlock_same r.blk]
      split at hc
      · exact hc
      · have h1 := h.cells c o v hc
        have h2 : o < len * sz := by
          rcases Nat.lt_or_ge o (len * sz) with q | q
          · exact q
          · rw [r.none o q] at hc; cases hc
        simp only [World.cell?, r.blk] at h1
        rw [← hsame o h2] at h1
        exact h1
    · simp only [MM.more, MM.withCells, e, if_false] at hc
      rw [cell?_putBlock_other e]
      exact h.cells c o v hc
  · intro c o v hc hlt
    have e : c ≠ b := fun e => by have := r.base; omega
    simp only [MM.more, MM.withCells, e, if_false] at hc
    exact h.old c o v hc hlt
  · intro c i hc; rw [putBlock_size]; exact h.owned c i hc
  · intro i cs2 hi
    by_cases e : i = id
    · rw [e, upd_same] at hi; cases hi
    · rw [upd_other e] at hi
      obtain ⟨c, vs2, ty2, k2⟩ := h.box i cs2 hi
      have : c ≠ b := fun ec => by have h1 := k2.own; rw [ec, r.own] at h1; exact e (Option.some.inj h1).symm
      exact ⟨c, vs2, ty2, k2.box, k2.base, k2.own, fun o => by simp only [MM.more, MM.withCells, this, if_false]; exact k2.none o, by rw [putBlock_other this]; exact k2.blk, k2.len, fun j d v a b => (k2.rep j d v a b).mono le⟩
  · intro i ver2 sz2 hi
    by_cases e : i = id
    · rw [e, upd_same] at hi; cases hi
    · rw [upd_other e] at hi
      obtain ⟨a, len2, cap2, k2⟩ := h.fam i ver2 sz2 hi
      refine ⟨a, len2, cap2, k2.hist, k2.last, ?_⟩
      rcases k2.room with q | ⟨c, vs2, ty2, fz2, ha, q⟩
      · exact .inl q
      · have : c ≠ b := fun ec => by have h1 := q.own; rw [ec, r.own] at h1; exact e (Option.some.inj h1).symm
        exact .inr ⟨c, vs2, ty2, fz2, ha, q.base, q.own, by rw [putBlock_other this]; exact q.blk, q.fz, q.cap, fun o ho => by simp only [MM.more, MM.withCells, this, if_false]; exact q.none o ho⟩

end Go.Ev
