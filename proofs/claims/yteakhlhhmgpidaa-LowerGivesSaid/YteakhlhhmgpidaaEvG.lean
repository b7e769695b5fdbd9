/- The evaluation of one operation is sound: second part (stores, new boxes, literals, integers, comparisons, slices, conversions). -/
import Derived.Test.YteakhlhhmgpidaaEvF
import Derived.Laws.BytesString
namespace Go.Ev
open Go Go.RowKit
set_option linter.unusedVariables false
set_option linter.unusedSimpArgs false

section
variable {P : Program} {o : Oper} {ρ : Operand → D}

/-! ### Stores and new boxes -/
theorem ok_store {ty : TypeId} {x v : Operand} {dyn : Bool} {id off : Nat} {cs vc : List D} (ho : o.op = .store ty x v) (hx : ρ x = .ptr dyn id off) (hv : (ρ v).cells = some vc) (hk : known P ty = true)
    (hsz : vc.length = P.cellsOf ty) (hst : ∀ d ∈ vc, storable d = true) (hl : off + vc.length ≤ cs.length) : OpOK P o ρ (.upd id (.box cs) (.box (splice cs off vc)) .undef) := by
  intro w0 M own σ w a i hw hr hpre next Q hn
  obtain ⟨b, vs, t, k⟩ := hw.box id cs hpre
  have hxr := hr x (by simp [ho, Op.operands])
  have hvr := hr v (by simp [ho, Op.operands])
  rw [hx] at hxr
  generalize hva : a.eval x = va at hxr
  cases hxr with
  | ptr _ hb =>
    rename_i b'
    rw [k.box] at hb
    obtain rfl := Option.some.inj hb
    have hcells := hvr.cells hv
    have hlen : (a.eval v).cells.toList.length = vc.length := by rw [Array.length_toList, ← hcells.1]
    have hone : ∀ u ∈ (a.eval v).cells.toList, u.oneCell' = true := by
      intro u hu
      obtain ⟨j, hj⟩ := List.mem_iff_getElem?.1 hu
      rw [Array.getElem?_toList] at hj
      have hjl : j < vc.length := by
        rcases Nat.lt_or_ge j vc.length with h | h
        · exact h
        · rw [hcells.1] at h; simp [Array.getElem?_eq_none h] at hj
      exact storable_one (hcells.2 j vc[j] u (by simp [hjl]) hj) (hst _ (by simp))
    have hrun := run_storeCells' (P := P) (b := b) (off := off) (fz := (0, 0)) (a.eval v).cells.toList 0 w vs k.blk hone (by rw [hlen, ← k.len]; omega) (fun o _ h => by have := h.2; simp at this)
    rw [Nat.add_zero] at hrun
    have hrep := repL_splice (M := M) ⟨k.len, k.rep⟩ hcells hl
    refine wp_skip' (w' := putBlock w b (.cells (putCells vs off (a.eval v).cells.toList) t (0, 0))) ?_ (hn undef M own _ (.refl M) ⟨rfl, fun _ _ => rfl⟩ (hw.setBox k hrep.1 hrep.2) (.undef _))
    have he : (a.eval v).cells.size = P.cellsOf ty := by rw [← hcells.1, hsz]
    simp [execOp, ho, Instr.storeAt, Instr.sureAddr, hva, storeVar, run_sizeOf' hk, he, hrun]

theorem newBox_ok {cs : List D} (h : ∀ (M : MM) (w : World) (a : Act), (∀ x ∈ o.op.operands, Rep M (ρ x) (a.eval x)) → ∃ vs ty, (execOp a.eval o).run P w = .ok (.value (.pointer (some ⟨w.heap.size, 0, none⟩))) (w.alloc (.cells vs ty)) ∧ RepL M cs vs) :
    OpOK P o ρ (.new (.box cs) fun id => .ptr false id 0) := by
  intro w0 M own σ w a id hw hr hpre next Q hn
  obtain ⟨vs, ty, h1, h2⟩ := h M w a hr
  have k := hw.newBox hpre.1 ty h2.1 h2.2
  exact wp_value h1 (hn _ _ _ _ (MM.le_withBox hpre.1) ⟨fun j hj => by simp [MM.withBox, hj], fun _ _ => rfl⟩ k (.ptr false (by simp [MM.withBox])))
theorem ok_box {e : TypeId} {x : Operand} {cs : List D} (ho : o.op = .box e x) (hx : (ρ x).cells = some cs) : OpOK P o ρ (.new (.box cs) fun id => .ptr false id 0) := by
  refine newBox_ok fun M w a hr => ⟨(a.eval x).cells, e, ?_, (hr x (by simp [ho, Op.operands])).cells hx⟩
  simp [execOp, ho, Instr.box, newVar, newRow]
theorem zeroD_out {t : TypeId} {d : D} (h : zeroD P t = some d) : ∃ i v, P.info? t = some i ∧ i.zero = some v ∧ d = valD v := by
  unfold zeroD at h
  split at h
  · rename_i i hi
    split at h
    · rename_i v hv
      exact ⟨i, v, hi, hv, (Option.some.inj h).symm⟩
    · cases h
  · cases h
theorem ok_alloc {e : TypeId} {d : D} {cs : List D} (ho : o.op = .alloc e) (hz : zeroD P e = some d) (hc : d.cells = some cs) : OpOK P o ρ (.new (.box cs) fun id => .ptr false id 0) := by
  obtain ⟨i, v, hi, hv, rfl⟩ := zeroD_out hz
  refine newBox_ok fun M w a hr => ⟨v.cells, e, ?_, (rep_valD (M := M) v).cells hc⟩
  simp [execOp, ho, Instr.alloc, run_zeroValue hi hv, newVar, newRow]

/-! ### Literals -/
theorem foldl_put (l : List Value) : ∀ (cells : Array Value) (off k : Nat), (l.zipIdx k).foldl (fun cs (p : Value × Nat) => cs.setIfInBounds (off + p.2) p.1) cells = putCells cells (off + k) l := by
  induction l with
  | nil => intro cells off k; rfl
  | cons x r ih => intro cells off k; simp [List.zipIdx_cons, putCells, ih, Nat.add_assoc]
theorem foldl_put' (v cells : Array Value) (off : Nat) : v.zipIdx.foldl (fun cs (c, j) => cs.setIfInBounds (off + j) c) cells = putCells cells off v.toList := by
  rw [← Array.foldl_toList, Array.toList_zipIdx]
  exact foldl_put v.toList cells off 0

/-- Parts that stand for one another. -/
def RepP (M : MM) : List (Nat × D) → List (Nat × Value) → Prop
  | [], [] => True
  | (i, d) :: r, (j, v) :: s => i = j ∧ Rep M d v ∧ RepP M r s
  | _, _ => False
theorem repP_map {M : MM} {a : Act} (ps : List (Nat × Operand)) (h : ∀ p ∈ ps, Rep M (ρ p.2) (a.eval p.2)) : RepP M (ps.map fun p => (p.1, ρ p.2)) (ps.map fun p => (p.1, a.eval p.2)) := by
  induction ps with
  | nil => trivial
  | cons p r ih => exact ⟨rfl, h p (by simp), ih fun q hq => h q (by simp [hq])⟩

theorem fill_ok {M : MM} (place : Nat → Option (Nat × Nat)) : ∀ (parts : List (Nat × D)) (vparts : List (Nat × Value)) (cells cs : List D) (arr : Array Value), RepP M parts vparts → RepL M cells arr → fillD place cells parts = some cs →
    ∃ arr', Instr.fill place arr vparts = some arr' ∧ RepL M cs arr'
  | [], [], cells, cs, arr, _, h, e => by
    simp only [fillD, Option.some.injEq] at e; subst e; exact ⟨arr, rfl, h⟩
  | [], _ :: _, _, _, _, hp, _, _ => hp.elim
  | _ :: _, [], _, _, _, hp, _, _ => hp.elim
  | (i, d) :: r, (j, v) :: s, cells, cs, arr, hp, h, e => by
    obtain ⟨rfl, hd, hp⟩ := hp
    unfold fillD at e
    split at e
    · rename_i off size vc hpl hvc
      split at e
      · rename_i hb
        rw [Bool.and_eq_true, Nat.beq_eq, Nat.ble_eq] at hb
        have hvl := hd.cells hvc
        have hsz : off + vc.length ≤ cells.length := by omega
        obtain ⟨arr', h1, h2⟩ := fill_ok place r s _ cs _ hp (repL_splice h hvl hsz) e
        refine ⟨arr', ?_, h2⟩
        have e1 : v.cells.size = size := by rw [← hvl.1]; exact hb.1
        have e2 : ¬ (off + v.cells.size > arr.size) := by rw [← h.1, e1]; omega
        rw [Instr.fill, hpl]
        simp only [e1, ne_eq, not_true_eq_false, decide_false, Bool.false_or]
        rw [← e1]
        simp only [e2, decide_false, Bool.false_eq_true, if_false, foldl_put']
        exact h1
      · cases e
    · cases e

theorem run_mapM_pure {α β : Type} (f : α → Sem β) (g : α → β) (l : List α) (h : ∀ x ∈ l, ∀ w, (f x).run P w = .ok (g x) w) : ∀ w, (l.mapM f).run P w = .ok (l.map g) w := by
  induction l with
  | nil => intro w; simp
  | cons x r ih =>
    intro w
    simp [List.mapM_cons, h x (by simp), ih fun y hy => h y (by simp [hy])]

theorem ok_build {ty : TypeId} {parts : Array (Nat × Operand)} {d : D} (ho : o.op = .build ty parts) (hb : buildD P ty (parts.toList.map fun p => (p.1, ρ p.2)) = some d) : OpOK P o ρ (.pure d) := by
  refine opOK_pure fun M w a _ hr => ?_
  have hparts := repP_map (M := M) (ρ := ρ) (a := a) parts.toList (fun p hp => hr p.2 (by
    simp only [ho, Op.operands]
    exact List.mem_toArray.2 (List.mem_map.2 ⟨p, hp, rfl⟩)))
  have htl : (parts.map fun (i, x) => (i, a.eval x)).toList = parts.toList.map fun p => (p.1, a.eval p.2) := by simp
  unfold buildD at hb
  split at hb
  · cases hb
  · rename_i z hz
    obtain ⟨i, v, hi, hv, rfl⟩ := zeroD_out hz
    split at hb
    · cases hb
    · rename_i zero hzc
      have hzl := (rep_valD (M := M) v).cells hzc
      split at hb
      · rename_i fields ht
        split at hb
        · rename_i hall
          split at hb
          · rename_i cs hcs
            simp only [Option.some.injEq] at hb
            subst hb
            obtain ⟨arr, h1, h2⟩ := fill_ok (M := M) _ _ _ _ _ _ hparts hzl hcs
            refine ⟨.agg arr, ?_, .agg h2.1 h2.2⟩
            have hm : ∀ w : World, (fields.mapM fun (f : Field) => (do pure (f.offset, ← sizeOf f.type) : Sem (Nat × Nat))).run P w = .ok (fields.map fun (f : Field) => (f.offset, P.cellsOf f.type)) w := by
              intro w
              rw [Array.mapM_eq_mapM_toList]
              rw [List.all_eq_true] at hall
              have := run_mapM_pure (P := P) (fun f : Field => (do pure (f.offset, ← sizeOf f.type) : Sem (Nat × Nat))) (fun f => (f.offset, P.cellsOf f.type)) fields.toList (fun f hf w => by simp [run_sizeOf' (hall f hf)]) w
              simp only [Sem.run_map, this, Result.andThen_ok]
              rw [← Array.toList_map, Array.toArray_toList]
            have hpl : (fun (i : Nat) => (fields.map fun (f : Field) => (f.offset, P.cellsOf f.type))[i]?) = fun (i : Nat) => (fields[i]?).map fun (f : Field) => (f.offset, P.cellsOf f.type) := by
              funext i; simp
            simp only [execOp, ho, Instr.build, Sem.run_bind, run_zeroValue hi hv, Result.andThen_ok, run_underlying ht]
            simp only [hm, Result.andThen_ok, htl, hpl, h1, Sem.run_pure]
          · cases hb
        · cases hb
      · rename_i n elem ht
        split at hb
        · rename_i hk
          split at hb
          · rename_i cs hcs
            simp only [Option.some.injEq] at hb
            subst hb
            obtain ⟨arr, h1, h2⟩ := fill_ok (M := M) _ _ _ _ _ _ hparts hzl hcs
            refine ⟨.agg arr, ?_, .agg h2.1 h2.2⟩
            simp only [execOp, ho, Instr.build, Sem.run_bind, run_zeroValue hi hv, Result.andThen_ok, run_underlying ht, run_sizeOf' hk, htl, h1, Sem.run_pure]
          · cases hb
        · cases hb
      · cases hb

/-! ### Integers -/
theorem not_eq_guard {op : BinOp} (h1 : op ≠ .eql) (h2 : op ≠ .neq) (t : TypeId) (x y : Operand) (a b : Value) : eqGuard op t x y a b = pure () := by
  cases op <;> first | rfl | (exact absurd rfl h1) | (exact absurd rfl h2)
theorem sameKind_eq {k k' : IntKind} (h : sameKind k k' = true) : k = k' := by cases k <;> cases k' <;> first | rfl | (simp [sameKind] at h)

theorem ok_bin {op : BinOp} {t t' : TypeId} {x y : Operand} {d : D} (ho : o.op = .binOp op t x y t')
    (h : ∀ (M : MM) (w : World) (u v : Value), Rep M (ρ x) u → Rep M (ρ y) v → ∃ r, (do eqGuard op t x y u v; binOp op t u v : Sem Value).run P w = .ok r w ∧ Rep M d r) : OpOK P o ρ (.pure d) := by
  refine opOK_pure fun M w a _ hr => ?_
  obtain ⟨r, h1, h2⟩ := h M w _ _ (hr x (by simp [ho, Op.operands])) (hr y (by simp [ho, Op.operands]))
  refine ⟨r, ?_, h2⟩
  simp only [execOp, ho]
  rw [Sem.run_bind, h1]
  rfl
end

section
variable {ρ' : Type} {P : Program} {r : ρ'}
theorem intBin_out {z : Z P} {st : Bool} {op : BinOp} {k : IntKind} {a b : Int} {K : Z P → D → Option ρ'} (h : intBin z st op k a b K = some r) (hsl : op ≠ .shl) (hsr : op ≠ .shr) :
    ∃ z' d, K z' d = some r ∧ (z'.c → z.c ∧ ∀ (M : MM) (w : World) (t : TypeId) (x y : Operand), ∃ v, (do eqGuard op t x y (.int k a) (.int k b); binOp op t (.int k a) (.int k b) : Sem Value).run P w = .ok v w ∧ Rep M d v) := by
  cases op <;> simp only [intBin] at h
  case shl => exact absurd rfl hsl
  case shr => exact absurd rfl hsr
  case quo =>
    obtain ⟨z', h1, h2⟩ := askIf_out h
    refine ⟨z', _, h1, fun c => ⟨(h2 c).1, fun M w t x y => ⟨_, ?_, .int _ _⟩⟩⟩
    have hb : b ≠ 0 := by simpa using (h2 c).2
    simp [eqGuard, binOp, Op.intDiv, hb]
  case rem =>
    obtain ⟨z', h1, h2⟩ := askIf_out h
    refine ⟨z', _, h1, fun c => ⟨(h2 c).1, fun M w t x y => ⟨_, ?_, .int _ _⟩⟩⟩
    have hb : b ≠ 0 := by simpa using (h2 c).2
    simp [eqGuard, binOp, Op.intDiv, hb]
  case and => exact ⟨z, _, h, fun c => ⟨c, fun M w t x y => ⟨.int k _, by rw [eqGuard_at_int]; simp only [pure_bind, binOp, ne_eq, not_true_eq_false, if_false]; rfl, .int _ _⟩⟩⟩
  case or => exact ⟨z, _, h, fun c => ⟨c, fun M w t x y => ⟨.int k _, by rw [eqGuard_at_int]; simp only [pure_bind, binOp, ne_eq, not_true_eq_false, if_false]; rfl, .int _ _⟩⟩⟩
  case xor => exact ⟨z, _, h, fun c => ⟨c, fun M w t x y => ⟨.int k _, by rw [eqGuard_at_int]; simp only [pure_bind, binOp, ne_eq, not_true_eq_false, if_false]; rfl, .int _ _⟩⟩⟩
  case andNot => exact ⟨z, _, h, fun c => ⟨c, fun M w t x y => ⟨.int k _, by rw [eqGuard_at_int]; simp only [pure_bind, binOp, ne_eq, not_true_eq_false, if_false]; rfl, .int _ _⟩⟩⟩
  case add => exact ⟨z, _, h, fun c => ⟨c, fun M w t x y => ⟨.int k _, by rw [eqGuard_at_int]; simp only [pure_bind, binOp, ne_eq, not_true_eq_false, if_false]; rfl, .int _ _⟩⟩⟩
  case sub => exact ⟨z, _, h, fun c => ⟨c, fun M w t x y => ⟨.int k _, by rw [eqGuard_at_int]; simp only [pure_bind, binOp, ne_eq, not_true_eq_false, if_false]; rfl, .int _ _⟩⟩⟩
  case mul => exact ⟨z, _, h, fun c => ⟨c, fun M w t x y => ⟨.int k _, by rw [eqGuard_at_int]; simp only [pure_bind, binOp, ne_eq, not_true_eq_false, if_false]; rfl, .int _ _⟩⟩⟩
  all_goals exact ⟨z, _, h, fun c => ⟨c, fun M w t x y => ⟨.bool _, by rw [eqGuard_at_int]; simp only [pure_bind, binOp, ne_eq, not_true_eq_false, if_false]; rfl, .bool _⟩⟩⟩

theorem fits_rep {M : MM} : ∀ {ks : List LK} {xs : List D} {vs : List Value}, fitsL ks xs = true → xs.length = vs.length → (∀ (i : Nat) (d : D) (v : Value), xs[i]? = some d → vs[i]? = some v → Rep M d v) → fitsVL ks vs
  | [], [], [], _, _, _ => trivial
  | [], [], _ :: _, _, h, _ => by simp at h
  | [], _ :: _, _, h, _, _ => by simp [fitsL] at h
  | _ :: _, [], _, h, _, _ => by simp [fitsL] at h
  | _ :: _, _ :: _, [], _, h, _ => by simp at h
  | k :: ks, d :: ds, v :: vs, h, hl, hr => by
    simp only [fitsL, Bool.and_eq_true] at h
    have h0 := hr 0 d v rfl rfl
    refine ⟨?_, fits_rep h.2 (by simpa using hl) fun i d v a b => hr (i + 1) d v (by simpa using a) (by simpa using b)⟩
    have h1 := h.1
    cases k <;> cases d <;> simp only [LK.fits, Bool.false_eq_true] at h1 <;> cases h0
    · trivial
    · exact sameKind_eq h1
    · trivial
theorem eqCells_rep {M : MM} : ∀ {ks : List LK} {xs ys : List D} {us vs : List Value}, fitsL ks xs = true → fitsL ks ys = true → xs.length = us.length → ys.length = vs.length →
    (∀ (i : Nat) (d : D) (v : Value), xs[i]? = some d → us[i]? = some v → Rep M d v) → (∀ (i : Nat) (d : D) (v : Value), ys[i]? = some d → vs[i]? = some v → Rep M d v) → eqCellsV us vs = eqCells xs ys
  | [], xs, ys, us, vs, hx, hy, lx, ly, _, _ => by
    cases xs <;> cases ys <;> simp [fitsL] at hx hy
    cases us <;> cases vs <;> simp at lx ly
    rfl
  | k :: ks, xs, ys, us, vs, hx, hy, lx, ly, rx, ry => by
    cases xs with
    | nil => simp [fitsL] at hx
    | cons x xs =>
    cases ys with
    | nil => simp [fitsL] at hy
    | cons y ys =>
    cases us with
    | nil => simp at lx
    | cons u us =>
    cases vs with
    | nil => simp at ly
    | cons v vs =>
      simp only [fitsL, Bool.and_eq_true] at hx hy
      have r1 := rx 0 x u rfl rfl
      have r2 := ry 0 y v rfl rfl
      have ih := eqCells_rep hx.2 hy.2 (by simpa using lx) (by simpa using ly) (fun i d v a b => rx (i + 1) d v (by simpa using a) (by simpa using b)) (fun i d v a b => ry (i + 1) d v (by simpa using a) (by simpa using b))
      simp only [eqCellsV, eqCells, ih]
      congr 1
      have h1 := hx.1
      have h2 := hy.1
      cases k <;> cases x <;> simp only [LK.fits, Bool.false_eq_true] at h1 <;> cases y <;> simp only [LK.fits, Bool.false_eq_true] at h2 <;> cases r1 <;> cases r2 <;> rfl

theorem eq_run {w : World} {t : TypeId} {u v : Value} {b : Bool} (he : binOp .eql t u v = (do pure (.bool (← Op.equal t u v)) : Sem Value)) (hn : binOp .neq t u v = (do pure (.bool (!(← Op.equal t u v))) : Sem Value))
    (h : (Op.equal t u v).run P w = .ok b w) : (binOp .eql t u v).run P w = .ok (.bool b) w ∧ (binOp .neq t u v).run P w = .ok (.bool (!b)) w := by
  rw [he, hn, Sem.run_bind, Sem.run_bind, h]
  exact ⟨rfl, rfl⟩
theorem eqc_out {z : Z P} {t : TypeId} {x y : D} {K : Z P → Bool → Option ρ'} (h : eqc P z t x y K = some r) :
    ∃ z' b, K z' b = some r ∧ (z'.c → z.c) ∧ ∀ (M : MM) (w : World) (u v : Value), Rep M x u → Rep M y v →
      (∀ op px py, (eqGuard op t px py u v).run P w = .ok () w) ∧ (binOp .eql t u v).run P w = .ok (.bool b) w ∧ (binOp .neq t u v).run P w = .ok (.bool (!b)) w := by
  unfold eqc at h
  split at h
  · -- bools
    split at h
    · rename_i ht
      refine ⟨z, _, h, id, fun M w u v hu hv => ?_⟩
      cases hu; cases hv
      exact ⟨fun op px py => by rw [eqGuard_at_bool]; rfl, run_eql_bool w t _ _ ht, run_neq_bool w t _ _ ht⟩
    · cases h
  · rename_i xs ys
    split at h
    · rename_i t' ks hf rest _
      obtain ⟨h1, h2⟩ := chk_out h
      rw [Bool.and_eq_true, Bool.and_eq_true, Nat.beq_eq] at h1
      obtain ⟨ht, hx, hy⟩ := h1
      subst ht
      refine ⟨_, _, h2, id, fun M w u v hu hv => ?_⟩
      cases hu with
      | agg l1 r1 =>
        cases hv with
        | agg l2 r2 =>
          rename_i us vs
          have lx : xs.length = us.toList.length := by simpa using l1
          have ly : ys.length = vs.toList.length := by simpa using l2
          have e1 := fits_rep (M := M) hx lx (fun i d v a b => r1 i d v a (by simpa using b))
          have e2 := fits_rep (M := M) hy ly (fun i d v a b => r2 i d v a (by simpa using b))
          have e3 := eqCells_rep (M := M) hx hy lx ly (fun i d v a b => r1 i d v a (by simpa using b)) (fun i d v a b => r2 i d v a (by simpa using b))
          have e4 := hf.eq us vs w e1 e2
          refine ⟨fun op px py => run_eqGuard_agg w op t' px py us vs hf.plain, ?_, ?_⟩
          · rw [run_eql_struct, e4, e3]; rfl
          · rw [run_neq_struct, e4, e3]; rfl
    · cases h
  all_goals first
    | (split at h
       · rename_i ht
         refine ⟨z, _, h, id, fun M w u v hu hv => ?_⟩
         cases hu; cases hv
         refine ⟨fun op px py => by cases op <;> rfl, ?_⟩
         refine eq_run rfl rfl ?_
         show (Op.equalIn (9999 + 1) t _ _).run P w = _
         unfold Op.equalIn
         simp only [Sem.run_bind, run_underlying ht, Result.andThen_ok, Sem.run_pure, Option.isNone_none]
       · cases h)
    | cases h

theorem binc_out {z : Z P} {st : Bool} {op : BinOp} {t : TypeId} {x y : D} {K : Z P → D → Option ρ'} (h : binc P z st op t x y K = some r) :
    ∃ z' d, K z' d = some r ∧ (z'.c → z.c ∧ ∀ (M : MM) (w : World) (px py : Operand) (u v : Value), Rep M x u → Rep M y v →
      ∃ q, (do eqGuard op t px py u v; binOp op t u v : Sem Value).run P w = .ok q w ∧ Rep M d q) := by
  unfold binc at h
  split at h
  · rename_i k a k' b
    split at h
    · obtain ⟨z', h1, h2⟩ := askIf_out h
      refine ⟨z', _, h1, fun c => ⟨(h2 c).1, fun M w px py u v hu hv => ?_⟩⟩
      cases hu; cases hv
      have hb : ¬ b < 0 := by have := (h2 c).2; simp at this; omega
      exact ⟨_, by simp [eqGuard, binOp, Op.shift, hb] <;> rfl, .int _ _⟩
    · obtain ⟨z', h1, h2⟩ := askIf_out h
      refine ⟨z', _, h1, fun c => ⟨(h2 c).1, fun M w px py u v hu hv => ?_⟩⟩
      cases hu; cases hv
      have hb : ¬ b < 0 := by have := (h2 c).2; simp at this; omega
      exact ⟨_, by simp [eqGuard, binOp, Op.shift, hb] <;> rfl, .int _ _⟩
    · rename_i hsl hsr
      obtain ⟨h1, h2⟩ := chk_out h
      obtain rfl := sameKind_eq h1
      obtain ⟨z', d, h3, h4⟩ := intBin_out h2 hsl hsr
      refine ⟨z', d, h3, fun c => ⟨(h4 c).1, fun M w px py u v hu hv => ?_⟩⟩
      cases hu; cases hv
      exact (h4 c).2 M w t px py
  · split at h
    · refine ⟨z, _, h, fun c => ⟨c, fun M w px py u v hu hv => ?_⟩⟩
      cases hu; cases hv
      exact ⟨_, by simp [eqGuard, binOp, Op.stringOp] <;> rfl, .bool _⟩
    · refine ⟨z, _, h, fun c => ⟨c, fun M w px py u v hu hv => ?_⟩⟩
      cases hu; cases hv
      exact ⟨_, by simp [eqGuard, binOp, Op.stringOp] <;> rfl, .bool _⟩
    · cases h
  · split at h
    · obtain ⟨z', b, h1, h2, h3⟩ := eqc_out h
      refine ⟨z', _, h1, fun c => ⟨h2 c, fun M w px py u v hu hv => ?_⟩⟩
      obtain ⟨e1, e2, e3⟩ := h3 M w u v hu hv
      exact ⟨_, by rw [Sem.run_bind, e1]; exact e2, .bool _⟩
    · obtain ⟨z', b, h1, h2, h3⟩ := eqc_out h
      refine ⟨z', _, h1, fun c => ⟨h2 c, fun M w px py u v hu hv => ?_⟩⟩
      obtain ⟨e1, e2, e3⟩ := h3 M w u v hu hv
      exact ⟨_, by rw [Sem.run_bind, e1]; exact e3, .bool _⟩
    · cases h

theorem unc_out {op : UnOp} {x : D} {K : D → Option ρ'} (h : unc op x K = some r) : ∃ d, K d = some r ∧ ∀ (M : MM) (w : World) (u : Value), Rep M x u → ∃ v, (Op.unary op u).run P w = .ok v w ∧ Rep M d v := by
  unfold unc at h
  split at h
  · refine ⟨_, h, fun M w u hu => ?_⟩
    cases hu
    exact ⟨_, by simp [Op.unary, Op.intArith] <;> rfl, by simpa using .int _ _⟩
  · refine ⟨_, h, fun M w u hu => ?_⟩
    cases hu
    exact ⟨_, by simp [Op.unary, Op.intBits] <;> rfl, .int _ _⟩
  · refine ⟨_, h, fun M w u hu => ?_⟩
    cases hu
    exact ⟨_, by simp [Op.unary] <;> rfl, .bool _⟩
  · cases h
end

end Go.Ev
