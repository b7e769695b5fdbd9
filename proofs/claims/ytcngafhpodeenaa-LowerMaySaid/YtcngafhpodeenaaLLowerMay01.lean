/- Contracts and plain laws that a statement's proof leans on (texts merged: MdKP). -/
import Derived.Test.YtcngafhpodeenaaW07
set_option linter.unusedVariables false
set_option linter.unusedSimpArgs false
namespace Go.Ev
open Go Go.RowKit Go.ChangeShapes Go.WideShapes Go.Deep
section
variable {H : Type} {enc : TypeId × Value → H} {P : Program} {w : World} {base : Nat} {spare : Nat → Bool} {held : Bool}
theorem prog_open {t e : TypeId} {f0 f1 : Field} {ks : List LK} {v : Value} {fuel b : Nat} {r : Reach} {x : DataW H × List MemPlace} (hu : P.underlying t = some (.struct #[f0, f1])) (hc : P.cellsOf t = 2)
  (a0 : f0.offset = 0) (b0 : P.underlying f0.type = some (.int .i64)) (c0 : P.cellsOf f0.type = 1) (a1 : f1.offset = 1) (b1 : P.underlying f1.type = some (.slice e)) (c1 : P.cellsOf f1.type = 1)
  (hk : flatK P 10 e = some ks) (hsz : P.cellsOf e = ks.length) (hne0 : ks.length ≠ 0) (hw : Value.okWide P w r b t v)
  (h : DataW.trod enc P w base spare held fuel t v.cells.toList = some x) :
  ∃ (n : Int) (xs : List (List D)), (∀ ds ∈ xs, okL ks ds) ∧ Rep (bareOf (allOf w)) (.agg [.int .i64 n, .lst .no ks.length (xs.map .agg)]) v := by
 have hagg : ∃ cs, v = .agg cs := by
  unfold Value.okWide at hw
  rw [hu] at hw
  exact ⟨hw.choose, hw.choose_spec.1⟩
 obtain ⟨cs, rfl⟩ := hagg
 have h : DataW.trod enc P w base spare held fuel t cs.toList = some x := h
 obtain ⟨ys, n', _, _, hl, hxl, hf⟩ := DataW.trod_struct hu h
 rw [hc] at hl
 obtain ⟨cs⟩ := cs
 match cs, hl, h, hf with
 | [y0, y1], hl, h, hf =>
  have g0 := hf 0 f0 rfl
  have g1 := hf 1 f1 rfl
  have hy : ys.length = 2 := hxl
  rw [List.getElem?_eq_getElem (by omega), a0, c0] at g0
  rw [List.getElem?_eq_getElem (by omega), a1, c1] at g1
  obtain ⟨m, e0, _, _⟩ := DataW.trod_int b0 g0
  have e0 : y0 = .int .i64 m := by simpa using e0
  obtain ⟨xs, hx, _, hr⟩ := slice_cells (ks := ks) .agg (fun ds _ => rfl) b1 hk hsz hne0 (v := y1) g1
  refine ⟨m, xs, hx, .agg rfl ?_⟩
  intro i d v p q
  match i, p, q with
  | 0, p, q =>
   simp at p q
   subst p q
   rw [e0]
   exact .int ..
  | 1, p, q =>
   simp at p q
   subst p q
   exact hr
end
def inK : List LK := [.int .i8, .int .i8, .int .i8, .int .i8, .bool, .int .i8, .int .i8, .int .i64, .int .i64]
theorem inst_of {ds : List D} (h : okL inK ds) : ∃ x : InstS, D.agg ds = x.d := by
 simp only [inK, okL] at h
 obtain ⟨kind, _, rfl, _, op, _, rfl, _, width, _, rfl, _, size, _, rfl, _, byReg, _, rfl, dst, _, rfl, _, src, _, rfl, _, off, _, rfl, _, imm, _, rfl, _, rfl⟩ := h
 exact ⟨⟨kind, op, width, size, byReg, dst, src, off, imm⟩, rfl⟩
theorem insts_of : ∀ (xs : List (List D)), (∀ ds ∈ xs, okL inK ds) → ∃ l : List InstS, xs.map .agg = isd l
 | [], _ => ⟨[], rfl⟩
 | ds :: r, h => by
  obtain ⟨l, e⟩ := insts_of r (fun d hd => h d (List.mem_cons_of_mem _ hd))
  obtain ⟨x, e1⟩ := inst_of (h ds (List.mem_cons_self ..))
  exact ⟨x :: l, by rw [List.map_cons, e1, e]; rfl⟩
end Go.Ev
