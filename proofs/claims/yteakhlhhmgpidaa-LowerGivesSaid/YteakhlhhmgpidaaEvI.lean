/- The evaluation of one operation is sound: fourth part (rows of a literal, append, strings and bytes). -/
import Derived.Test.YteakhlhhmgpidaaEvH
namespace Go.Ev
open Go Go.RowKit
set_option linter.unusedVariables false
set_option linter.unusedSimpArgs false

theorem row_lt {sz i j n : Nat} (hi : i < n) (hj : j < sz) : i * sz + j < n * sz := by
  have : (i + 1) * sz ≤ n * sz := Nat.mul_le_mul_right _ hi
  rw [Nat.add_mul] at this
  omega
theorem row_ne {sz i i' j j' : Nat} (hj : j < sz) (hj' : j' < sz) (h : i ≠ i') : i * sz + j ≠ i' * sz + j' := by
  intro e
  rcases Nat.lt_or_gt_of_ne h with q | q
  · have := row_lt q hj; omega
  · have := row_lt q hj'; omega

theorem rep_get {n i : Nat} {a x : D} (h : (List.replicate n a)[i]? = some x) : i < n ∧ a = x := by
  rw [List.getElem?_replicate] at h
  split at h
  · exact ⟨by assumption, Option.some.inj h⟩
  · cases h

section
variable {ρ' : Type} {P : Program} {r : ρ'}

theorem setParts_out {size : Nat} : ∀ {parts : List (Nat × D)} {xs : List D} {k : List D → Option ρ'}, setParts size xs parts k = some r →
    ∃ xs', k xs' = some r ∧ xs'.length = xs.length ∧ ∀ (M : MM) (vparts : List (Nat × Value)) (arr : Array Value), RepP M parts vparts → RowOf M size xs arr →
      ∃ arr', Instr.fill (fun i => some (i * size, size)) arr vparts = some arr' ∧ RowOf M size xs' arr' ∧ arr'.size = arr.size
  | [], xs, k, h => ⟨xs, h, rfl, fun M vparts arr hp hr => by
      cases vparts with
      | nil => exact ⟨arr, rfl, hr, rfl⟩
      | cons _ _ => exact hp.elim⟩
  | (i, d) :: rest, xs, k, h => by
    unfold setParts at h
    obtain ⟨y, hy, hrep, _⟩ := plainc_out h
    split at hy
    · rename_i vc hvc
      obtain ⟨h1, h2⟩ := chk_out hy
      rw [Bool.and_eq_true, Bool.and_eq_true, Nat.beq_eq, List.all_eq_true] at h1
      obtain ⟨⟨hsz, hlt⟩, hst⟩ := h1
      have hlt : i < xs.length := Nat.lt_of_succ_le (by simpa [Nat.blt, Nat.ble_eq] using hlt)
      obtain ⟨xs', hk, hl, hall⟩ := setParts_out h2
      refine ⟨xs', hk, by simpa using hl, fun M vparts arr hp hr => ?_⟩
      cases vparts with
      | nil => exact hp.elim
      | cons p s =>
        obtain ⟨j, u⟩ := p
        obtain ⟨rfl, hd, hp⟩ := hp
        have hcells := (hrep M u hd).cells hvc
        have hus : u.cells.size = size := by rw [← hcells.1]; exact hsz
        have hbound : i * size + size ≤ xs.length * size := by
          have : (i + 1) * size ≤ xs.length * size := Nat.mul_le_mul_right _ hlt
          rwa [Nat.add_mul, Nat.one_mul] at this
        have hroom : i * size + u.cells.toList.length ≤ arr.size := by rw [Array.length_toList, hus]; exact Nat.le_trans hbound hr.len
        have hrow : RowOf M size (xs.set i y) (putCells arr (i * size) u.cells.toList) := by
          refine ⟨by rw [putCells_size, List.length_set]; exact hr.len, ?_, ?_, ?_⟩
          · intro k x hx
            by_cases e : i = k
            · subst e
              rw [List.getElem?_set_self (by simpa using hlt)] at hx
              obtain rfl := Option.some.inj hx
              exact ⟨vc, hvc, hsz⟩
            · rw [List.getElem?_set_ne e] at hx
              exact hr.elem k x hx
          · intro k x cs j c hx hcs hj
            rw [putCells_get _ _ _ _ hroom]
            rw [Array.length_toList, hus]
            by_cases e : i = k
            · subst e
              rw [List.getElem?_set_self (by simpa using hlt)] at hx
              obtain rfl := Option.some.inj hx
              rw [hvc] at hcs
              obtain rfl := Option.some.inj hcs
              obtain ⟨v, hv, hrv⟩ := hcells.get hj
              have hjl : j < size := by
                rcases Nat.lt_or_ge j vc.length with q | q
                · omega
                · simp [List.getElem?_eq_none q] at hj
              rw [if_pos ⟨by omega, by omega⟩, show i * size + j - i * size = j by omega]
              exact ⟨v, by simpa using hv, hrv⟩
            · rw [List.getElem?_set_ne e] at hx
              obtain ⟨cs', q1, q2⟩ := hr.elem k x hx
              rw [hcs] at q1
              obtain rfl := Option.some.inj q1
              have hjl : j < size := by
                rcases Nat.lt_or_ge j cs.length with q | q
                · omega
                · simp [List.getElem?_eq_none q] at hj
              rw [if_neg]
              · exact hr.get k x cs j c hx hcs hj
              · intro hh
                obtain ⟨m, hm⟩ : ∃ m, k * size + j = i * size + m := ⟨k * size + j - i * size, by omega⟩
                exact row_ne hjl (show m < size by omega) (Ne.symm e) hm
          · intro k x cs c hx hcs hc
            by_cases e : i = k
            · subst e
              rw [List.getElem?_set_self (by simpa using hlt)] at hx
              obtain rfl := Option.some.inj hx
              rw [hvc] at hcs
              obtain rfl := Option.some.inj hcs
              exact hst c hc
            · rw [List.getElem?_set_ne e] at hx
              exact hr.st k x cs c hx hcs hc
        obtain ⟨arr', f1, f2, f3⟩ := hall M s _ hp hrow
        refine ⟨arr', ?_, f2, by rw [f3, putCells_size]⟩
        have e2 : ¬ (i * size + size > arr.size) := by have := hr.len; omega
        rw [Instr.fill]
        simp only [hus, ne_eq, not_true_eq_false, decide_false, Bool.false_or, e2, Bool.false_eq_true, if_false, foldl_put']
        exact f1
    · cases hy
end

section
variable {P : Program} {o : Oper} {ρ : Operand → D}

theorem zeroRow {M : MM} {d : D} {zc : List D} {v : Value} (hc : d.cells = some zc) (hd : Rep M.bare d v) (hst : ∀ c ∈ zc, storable c = true) (len : Nat) :
    RowOf M zc.length (List.replicate len d) ((Array.range (len * zc.length)).map (v.cells[· % v.cells.size]!)) := by
  have hcells := hd.cells hc
  refine ⟨by simp, ?_, ?_, ?_⟩
  · intro i x hx
    obtain ⟨_, rfl⟩ := rep_get hx
    exact ⟨zc, hc, rfl⟩
  · intro i x cs j c hx hcs hj
    obtain ⟨hi, rfl⟩ := rep_get hx
    rw [hc] at hcs
    obtain rfl := Option.some.inj hcs
    obtain ⟨u, hu, hru⟩ := hcells.get hj
    have hjl : j < zc.length := by
      rcases Nat.lt_or_ge j zc.length with q | q
      · exact q
      · simp [List.getElem?_eq_none q] at hj
    refine ⟨u, ?_, hru⟩
    have := row_lt hi hjl
    simp only [Array.getElem?_map, Array.getElem?_range, this, if_true, Option.map_some, Option.some.injEq]
    rw [← hcells.1, Nat.add_comm, Nat.add_mul_mod_self_right, Nat.mod_eq_of_lt hjl]
    have hjs : j < v.cells.size := by rw [← hcells.1]; exact hjl
    rw [getElem!_pos v.cells j hjs]
    rw [getElem?_pos v.cells j hjs] at hu
    exact Option.some.inj hu
  · intro i x cs c hx hcs hcc
    obtain ⟨_, rfl⟩ := rep_get hx
    rw [hc] at hcs
    obtain rfl := Option.some.inj hcs
    exact hst c hcc

theorem ok_buildSlice {ρ' : Type} {r : ρ'} {ty : TypeId} {len : Nat} {parts : Array (Nat × Operand)} {e : TypeId} {d : D} {zc : List D} {k : List D → Option ρ'} (ho : o.op = .buildSlice ty len parts) (ht : P.underlying ty = some (.slice e)) (hz : zeroD P e = some d) (hc : d.cells = some zc)
    (hk : known P e = true) (hsz : zc.length = P.cellsOf e) (hbig : len * P.cellsOf e ≤ 16777216) (hst : ∀ c ∈ zc, storable c = true)
    (h : setParts (P.cellsOf e) (List.replicate len d) (parts.toList.map fun p => (p.1, ρ p.2)) k = some r) :
    ∃ xs, k xs = some r ∧ OpOK P o ρ (.pure (.lst .tight (P.cellsOf e) xs)) := by
  obtain ⟨xs, h1, h2, h3⟩ := setParts_out h
  refine ⟨xs, h1, opOK_lay fun M w a hw hr => ?_⟩
  have hparts := repP_map (M := M) (ρ := ρ) (a := a) parts.toList (fun p hp => hr p.2 (by
    simp only [ho, Op.operands]
    exact List.mem_toArray.2 (List.mem_map.2 ⟨p, hp, rfl⟩)))
  have htl : (parts.map fun (i, x) => (i, a.eval x)).toList = parts.toList.map fun p => (p.1, a.eval p.2) := by simp
  obtain ⟨i, v, hi, hv, rfl⟩ := zeroD_out hz
  have hlen : xs.length = len := by rw [h2]; simp
  obtain ⟨arr0, hr0, hs0, hrun0⟩ : ∃ arr0 : Array Value, RowOf M (P.cellsOf e) (List.replicate len (valD v)) arr0 ∧ arr0.size = len * P.cellsOf e ∧
      (if len * P.cellsOf e = 0 then pure #[] else do pure (← zeroValue e).cells : Sem (Array Value)).run P w = .ok (if len * P.cellsOf e = 0 then #[] else v.cells) w ∧
      ((Array.range (len * P.cellsOf e)).map ((if len * P.cellsOf e = 0 then #[] else v.cells)[· % (if len * P.cellsOf e = 0 then #[] else v.cells).size]!)) = arr0 := by
    by_cases hz0 : len * P.cellsOf e = 0
    · refine ⟨#[], ?_, by simp [hz0], by simp [hz0], by simp [hz0]⟩
      rcases Nat.eq_zero_or_pos len with e1 | e1
      · subst e1
        exact ⟨by simp, fun i x hx => by simp at hx, fun i x cs j c hx => by simp at hx, fun i x cs c hx => by simp at hx⟩
      · have e2 : P.cellsOf e = 0 := by
          rcases Nat.mul_eq_zero.1 hz0 with q | q
          · omega
          · exact q
        have e3 : zc = [] := List.eq_nil_of_length_eq_zero (by omega)
        subst e3
        refine ⟨by simp [e2], fun i x hx => ?_, fun i x cs j c hx hcs hj => ?_, fun i x cs c hx hcs hcc => ?_⟩ <;> obtain ⟨_, rfl⟩ := rep_get hx
        · exact ⟨[], hc, by simp [e2]⟩
        · rw [hc] at hcs; obtain rfl := Option.some.inj hcs; simp at hj
        · rw [hc] at hcs; obtain rfl := Option.some.inj hcs; simp at hcc
    · refine ⟨_, ?_, ?_, by simp [hz0, run_zeroValue hi hv], rfl⟩
      · rw [if_neg hz0, ← hsz]
        exact zeroRow hc (rep_valD v) hst len
      · simp
  obtain ⟨arr, hf, hrow, hsa⟩ := h3 M _ _ hparts hr0
  have hx := ext_lay (M := M) (w := w) (wd := w) (arr := arr) (ty := e) (n := arr.size) hw rfl (Below.refl _ _) (0, 0)
  have hl := rep_lay (b := w.heap.size) (o := .tight) (cap := xs.length) (n := arr.size) hrow (cell_none_of_size hw (Nat.le_refl _)) (Nat.le_refl _) hrow.len rfl
  refine ⟨_, _, _, ?_, hx, rfl, rfl, hl⟩
  simp only [execOp, ho, Instr.buildSlice, Sem.run_bind, run_underlying ht, Result.andThen_ok, run_sizeOf' hk]
  rw [if_neg (by omega)]
  have hend : (newRow e arr).run P w = .ok ⟨w.heap.size, 0, none⟩ (w.alloc (.cells arr e)) := by simp [newRow]
  by_cases hz0 : len * P.cellsOf e = 0
  · have h5 := hrun0.2
    rw [hz0] at h5
    simp only [hz0, if_true, Sem.run_bind, Sem.run_pure, Result.andThen_ok, htl]
    simp only [if_true] at h5
    rw [h5, hf]
    simp only [Sem.run_bind, hend, Result.andThen_ok, Sem.run_pure, hlen]
  · have h5 := hrun0.2
    simp only [hz0, if_false] at h5
    simp only [hz0, if_false, Sem.run_bind, run_zeroValue hi hv, Sem.run_pure, Result.andThen_ok, htl, h5]
    rw [hf]
    simp only [Sem.run_bind, hend, Result.andThen_ok, Sem.run_pure, hlen]

/-! ### A slice's cells, loaded; append -/
theorem rep_row {M : MM} {ow : Own} {sz size : Nat} {xs : List D} {a : Option Addr} {len cap : Nat} (h : Rep M (.lst ow sz xs) (.slice a len cap)) (hs : sz = size ∨ xs = []) {w : World} (hw : ∀ b o v, M.cell b o = some v → w.cell? ⟨b, o, none⟩ = some v) :
    ∃ arr : Array Value, arr.size = xs.length * size ∧ RowOf M size xs arr ∧ (∀ wd : World, (∀ a, wd.cell? a = w.cell? a) → (Builtin.firstCells size len (.slice a len cap)).run P wd = .ok arr wd) ∧ ∀ v ∈ arr.toList, v.oneCell' = true := by
  cases h with
  | lst b off vs hl hcap ha hsz hc hr hst ho =>
    by_cases hne : xs = []
    · subst hne
      have hlen : len = 0 := by simpa using hl.symm
      subst hlen
      refine ⟨#[], by simp, ⟨by simp, fun i x hx => by simp at hx, fun i x cs j c hx => by simp at hx, fun i x cs c hx => by simp at hx⟩, fun wd _ => ?_, by simp⟩
      cases a with
      | none => rfl
      | some ad => simp [Builtin.firstCells, loadCells, loadCellsFrom]
    · obtain rfl : sz = size := hs.resolve_right hne
      obtain rfl := ha hne
      let arr : Array Value := ((List.range (xs.length * sz)).map fun k => vs (k / sz) (k % sz)).toArray
      have hpos : ∀ {k : Nat}, k < xs.length * sz → 0 < sz := fun {k} hk => by
        rcases Nat.eq_zero_or_pos sz with q | q
        · rw [q] at hk; omega
        · exact q
      have hdiv : ∀ {k : Nat}, k < xs.length * sz → k / sz < xs.length ∧ k % sz < sz ∧ k / sz * sz + k % sz = k := fun {k} hk => by
        have hp := hpos hk
        refine ⟨(Nat.div_lt_iff_lt_mul hp).2 hk, Nat.mod_lt _ hp, ?_⟩
        rw [Nat.mul_comm]; exact Nat.div_add_mod k sz
      have hat : ∀ {k : Nat}, k < xs.length * sz → ∃ x cs c, xs[k / sz]? = some x ∧ x.cells = some cs ∧ cs[k % sz]? = some c := fun {k} hk => by
        obtain ⟨h1, h2, h3⟩ := hdiv hk
        have hx : xs[k / sz]? = some xs[k / sz] := by simp [h1]
        obtain ⟨cs, hcs, hlen⟩ := hsz _ _ hx
        exact ⟨_, cs, cs[k % sz]'(by omega), hx, hcs, by simp [show k % sz < cs.length by omega]⟩
      have hget : ∀ {k : Nat} {v : Value}, arr[k]? = some v → k < xs.length * sz ∧ v = vs (k / sz) (k % sz) := fun {k v} hk => by
        simp only [arr, List.getElem?_toArray, List.getElem?_map, Option.map_eq_some_iff] at hk
        obtain ⟨x, hx, rfl⟩ := hk
        have hlt : k < xs.length * sz := by
          rcases Nat.lt_or_ge k (xs.length * sz) with q | q
          · exact q
          · rw [List.getElem?_eq_none (by simpa using q)] at hx; cases hx
        rw [List.getElem?_range hlt] at hx
        cases hx
        exact ⟨hlt, rfl⟩
      have hsize : arr.size = xs.length * sz := by simp [arr]
      refine ⟨arr, hsize, ⟨by rw [hsize]; exact Nat.le_refl _, hsz, ?_, hst⟩, ?_, ?_⟩
      · intro i x cs j c hx hcs hj
        obtain ⟨cs', q1, q2⟩ := hsz i x hx
        rw [hcs] at q1
        obtain rfl := Option.some.inj q1
        have hjl : j < sz := by
          rcases Nat.lt_or_ge j cs.length with q | q
          · omega
          · simp [List.getElem?_eq_none q] at hj
        have hil : i < xs.length := by
          rcases Nat.lt_or_ge i xs.length with q | q
          · exact q
          · simp [List.getElem?_eq_none q] at hx
        have hk := row_lt hil hjl
        refine ⟨vs i j, ?_, hr i x cs j c hx hcs hj⟩
        simp only [arr, List.getElem?_toArray, List.getElem?_map, List.getElem?_range hk, Option.map_some, Option.some.injEq]
        have e1 : (i * sz + j) / sz = i := by
          rw [Nat.add_comm, Nat.add_mul_div_right _ _ (hpos hk), Nat.div_eq_of_lt hjl, Nat.zero_add]
        have e2 : (i * sz + j) % sz = j := by
          rw [Nat.add_comm, Nat.add_mul_mod_self_right, Nat.mod_eq_of_lt hjl]
        rw [e1, e2]
      · intro wd hwd
        have := run_loadCells' (P := P) (w := wd) b off arr (fun k v hk => by
          rw [hwd]
          obtain ⟨hlt, rfl⟩ := hget hk
          obtain ⟨x, cs, c, q1, q2, q3⟩ := hat hlt
          obtain ⟨d1, d2, d3⟩ := hdiv hlt
          have := hw _ _ _ (hc _ x cs _ c q1 q2 q3)
          rw [Nat.add_assoc, d3] at this
          exact this)
        simp only [Builtin.firstCells]
        rw [hsize, hl] at this
        exact this
      · intro v hv
        obtain ⟨k, hk⟩ := List.mem_iff_getElem?.1 hv
        rw [Array.getElem?_toList] at hk
        obtain ⟨hlt, rfl⟩ := hget hk
        obtain ⟨x, cs, c, q1, q2, q3⟩ := hat hlt
        exact storable_one (hr _ x cs _ c q1 q2 q3) (hst _ x cs c q1 q2 (List.mem_of_getElem? q3))

theorem RowOf.append {M : MM} {size : Nat} {xs ys : List D} {a1 a2 : Array Value} (h1 : RowOf M size xs a1) (h2 : RowOf M size ys a2) (hs : a1.size = xs.length * size) (rest : Array Value) : RowOf M size (xs ++ ys) (a1 ++ a2 ++ rest) := by
  have hcase : ∀ {i : Nat} {x : D}, (xs ++ ys)[i]? = some x → (i < xs.length ∧ xs[i]? = some x) ∨ (xs.length ≤ i ∧ ys[i - xs.length]? = some x) := by
    intro i x hx
    rw [List.getElem?_append] at hx
    split at hx
    · exact .inl ⟨by assumption, hx⟩
    · exact .inr ⟨by omega, hx⟩
  refine ⟨?_, ?_, ?_, ?_⟩
  · have := h2.len
    simp only [List.length_append, Array.size_append, Nat.add_mul, hs]
    omega
  · intro i x hx
    rcases hcase hx with ⟨_, h⟩ | ⟨_, h⟩
    · exact h1.elem i x h
    · exact h2.elem _ x h
  · intro i x cs j c hx hcs hj
    rcases hcase hx with ⟨_, h⟩ | ⟨hge, h⟩
    · obtain ⟨v, hv, hr⟩ := h1.get i x cs j c h hcs hj
      refine ⟨v, ?_, hr⟩
      have hlt : i * size + j < a1.size := by
        rcases Nat.lt_or_ge (i * size + j) a1.size with q | q
        · exact q
        · simp [Array.getElem?_eq_none q] at hv
      rw [Array.append_assoc, Array.getElem?_append_left hlt]
      exact hv
    · obtain ⟨v, hv, hr⟩ := h2.get _ x cs j c h hcs hj
      refine ⟨v, ?_, hr⟩
      have hlt : (i - xs.length) * size + j < a2.size := by
        rcases Nat.lt_or_ge ((i - xs.length) * size + j) a2.size with q | q
        · exact q
        · simp [Array.getElem?_eq_none q] at hv
      have e : i * size + j = a1.size + ((i - xs.length) * size + j) := by
        rw [hs, ← Nat.add_assoc, ← Nat.add_mul]; congr 2; omega
      rw [e, Array.append_assoc, Array.getElem?_append_right (by omega), show a1.size + ((i - xs.length) * size + j) - a1.size = (i - xs.length) * size + j by omega, Array.getElem?_append_left hlt]
      exact hv
  · intro i x cs c hx hcs hc
    rcases hcase hx with ⟨_, h⟩ | ⟨_, h⟩
    · exact h1.st i x cs c h hcs hc
    · exact h2.st _ x cs c h hcs hc

/-- What 'append' does: nothing new and room; or a write behind the end; or a new row. -/
theorem run_append {st xt ety rty : TypeId} {e2 : TypeId} {ts : Array TypeId} {args : Array Value} {i : TypeInfo} {z : Value} (ht : P.underlying st = some (.slice ety)) (hx : P.underlying xt = some (.slice e2)) (h0 : ts[0]? = some st) (h1 : ts[1]? = some xt)
    (hi : P.info? ety = some i) (hz : i.zero = some z) {a a' : Option Addr} {len cap len' cap' : Nat} {w : World} {old new : Array Value} (g0 : args[0]? = some (.slice a len cap)) (g1 : args[1]? = some (.slice a' len' cap'))
    (hold : (Builtin.firstCells i.size len (.slice a len cap)).run P w.drew = .ok old w.drew) (hnew : (Builtin.firstCells i.size len' (.slice a' len' cap')).run P w = .ok new w) (hnew' : (Builtin.firstCells i.size len' (.slice a' len' cap')).run P w.drew = .ok new w.drew)
    (hb : i.bytes ≤ 65536) (hn : len + len' ≤ 2147483648) :
    (len + len' ≤ cap → (Builtin.append_ ts rty args).run P w = (do (match a with | some ad => storeCells (ad.add (len * i.size)) new.toList | none => pure ()); pure (.slice a (len + len') cap) : Sem Value).run P w) ∧
    (cap < len + len' → ∃ nc, len + len' ≤ nc ∧ (Builtin.append_ ts rty args).run P w = .ok (.slice (some ⟨w.heap.size, 0, none⟩) (len + len') nc) (w.drew.alloc (.cells (old ++ new ++ Builtin.zeroCells z.cells (nc - (len + len'))) ety))) := by
  constructor
  · intro hcap
    cases a <;> simp [Builtin.append_, h0, h1, g0, g1, run_underlying ht, run_underlying hx, sizeOf, typeInfo, hi, Builtin.lenOf, hcap, hnew]
  · intro hcap
    have hbytes : (len + len') * i.bytes ≤ 140737488355328 := by
      have := Nat.mul_le_mul hn hb
      omega
    have hg := growslice_fits hcap hbytes
    refine ⟨grownCap w (len + len') cap ety, grownCap_ge w _ _ _, ?_⟩
    have e1 : ¬ (len + len' ≤ cap) := by omega
    have e2 : ¬ (9223372036854775807 < (len : Int) + (len' : Int) ∧ i.bytes = 0) := by omega
    have e3 : ¬ (Builtin.nextslicecap (len + len') cap * i.bytes > 2 ^ 48) := by omega
    have e4 : (Question.appendCap (len + len') cap ety).forced = false := rfl
    have e5 : ∀ x : Array Value, (newRow ety x).run P w.drew = .ok ⟨w.heap.size, 0, none⟩ (w.drew.alloc (.cells x ety)) := fun x => by simp [newRow]; rfl
    simp [Builtin.append_, h0, h1, g0, g1, run_underlying ht, run_underlying hx, sizeOf, typeInfo, hi, Builtin.lenOf, e1, e3, e2, e4, hold, hnew', run_zeroValue hi hz, e5]
    exact ⟨rfl, rfl⟩

theorem hasZero_out {t : TypeId} (h : hasZero P t = true) : ∃ i z, P.info? t = some i ∧ i.zero = some z ∧ z.cells.size = i.size ∧ P.cellsOf t = i.size := by
  unfold hasZero at h
  split at h
  · rename_i i hi
    split at h
    · rename_i z hz
      exact ⟨i, z, hi, hz, by simpa using h, by simp [Program.cellsOf, hi]⟩
    · cases h
  · cases h
theorem okSz_out {sz size : Nat} {xs : List D} (h : okSz sz xs size = true) : sz = size ∨ xs = [] := by
  unfold okSz at h
  rw [Bool.or_eq_true, Nat.beq_eq, List.isEmpty_iff] at h
  exact h

/-- 'append': what the lists come to, whatever the memory does. The header it had, or room that it filled, or a new row. -/
theorem append_core {w0 : Base} {w : World} {M : MM} {own : Nat → Option Nat} {σ : Nat → Ob} (hw : WRel w0 M own σ w) {st xt ety rty e2 : TypeId} {ts : Array TypeId} {args : Array Value} (ht : P.underlying st = some (.slice ety)) (hx : P.underlying xt = some (.slice e2)) (h0 : ts[0]? = some st) (h1 : ts[1]? = some xt)
    (hz : hasZero P ety = true) (hbytes : P.bytesOf ety ≤ 65536) {ow ow' : Own} {sz sz' : Nat} {xs ys : List D} {u u' : Value} (g0 : args[0]? = some u) (g1 : args[1]? = some u') (hu : Rep M (.lst ow sz xs) u) (hu' : Rep M (.lst ow' sz' ys) u')
    (hsz : sz = P.cellsOf ety ∨ xs = []) (hsz' : sz' = P.cellsOf ety ∨ ys = []) (hn : xs.length + ys.length ≤ big) {id ver : Nat} (hver : ∀ v, ver ≤ v → M.hist id v = none)
    (hroom : ∀ a len cap, u = .slice a len cap → cap = len ∨ ∃ b vs ty fz ver' sz2, a = some ⟨b, 0, none⟩ ∧ RoomOK w0 M own id (P.cellsOf ety) w len cap b vs ty fz ∧ σ id = .fam ver' sz2) :
    ∃ v M' own' w', (Builtin.append_ ts rty args).run P w = .ok v w' ∧ M.Le M' ∧ WRel w0 M' own' (upd σ id (.fam ver (P.cellsOf ety))) w' ∧ Rep M' (.lst (.tok id ver) (P.cellsOf ety) (xs ++ ys)) v ∧ M'.box = M.box ∧ ∀ j, j ≠ id → M'.hist j = M.hist j := by
  obtain ⟨i, z, hi, hiz, hzs, hcells⟩ := hasZero_out hz
  have hbytes' : i.bytes ≤ 65536 := by simpa [Program.bytesOf, hi] using hbytes
  cases hu with
  | lst b off vs hl hcap ha hsize hc hr hst ho =>
    rename_i a len cap
    have hrep : Rep M (.lst ow sz xs) (.slice a len cap) := .lst b off vs hl hcap ha hsize hc hr hst ho
    cases hu' with
    | lst b' off' vs' hl' hcap' ha' hsize' hc' hr' hst' ho' =>
      rename_i a' len' cap'
      have hrep' : Rep M (.lst ow' sz' ys) (.slice a' len' cap') := .lst b' off' vs' hl' hcap' ha' hsize' hc' hr' hst' ho'
      rw [hcells] at hsz hsz'
      obtain ⟨old, os, orow, orun, _⟩ := rep_row (P := P) hrep hsz hw.cells
      obtain ⟨new, ns, nrow, nrun, none1⟩ := rep_row (P := P) hrep' hsz' hw.cells
      have hbig : len + len' ≤ 2147483648 := by rw [← hl, ← hl']; exact hn
      obtain ⟨r1, r2⟩ := run_append (P := P) (rty := rty) ht hx h0 h1 hi hiz g0 g1 (orun w.drew fun _ => rfl) (nrun w fun _ => rfl) (nrun w.drew fun _ => rfl) hbytes' hbig
      rcases Nat.lt_or_ge cap (len + len') with hlt | hge
      · -- a new row
        obtain ⟨nc, hnc, hrun⟩ := r2 hlt
        let arr := old ++ new ++ Builtin.zeroCells z.cells (nc - (len + len'))
        have hrow : RowOf M i.size (xs ++ ys) arr := orow.append nrow os _
        have harr : arr.size = nc * i.size := by
          simp only [arr, Array.size_append, size_zeroCells, os, ns, hzs, hl, hl', ← Nat.add_mul]
          congr 1; omega
        have hn2 : (xs ++ ys).length * i.size ≤ (len + len') * i.size := by rw [List.length_append, hl, hl']; exact Nat.le_refl _
        have hx2 := ext_lay (M := M) (w := w) (wd := w.drew) (arr := arr) (ty := ety) (n := (len + len') * i.size) hw.cells rfl (Below.refl _ _).drew (0, 0)
        obtain ⟨hw2, le2⟩ := hw.ext hx2 rfl rfl
        have hheap : (w.drew.alloc (.cells arr ety (0, 0))).heap[w.heap.size]? = some (.cells arr ety (0, 0)) := by
          show (w.heap.push _)[w.heap.size]? = _
          simp
        have hfree : own w.heap.size = none := by
          cases e : own w.heap.size with
          | none => rfl
          | some q => have := hw.owned _ _ e; omega
        obtain ⟨own', hw3⟩ := hw2.setFam (id := id) (ver := ver) hver (a := some ⟨w.heap.size, 0, none⟩) (len := len + len') (cap := nc) i.size
          (.inr ⟨w.heap.size, arr, ety, (0, 0), rfl, hw.below.size, .inl hfree, hheap, fun o _ h => by have := h.2; simp at this, by rw [harr]; exact Nat.le_refl _, fun o ho => by
            simp only [MM.lay, MM.withCells, if_true]; rw [if_neg (by omega)]⟩)
        have le3 := MM.le_withHist (M := M.lay w.heap.size arr ((len + len') * i.size)) (id := id) (ver := ver) (v := .slice (some ⟨w.heap.size, 0, none⟩) (len + len') nc) (hver ver (Nat.le_refl _))
        refine ⟨_, _, own', _, hrun, le2.trans le3, by rw [hcells]; exact hw3, ?_, rfl, ?_⟩
        · have hlen : (xs ++ ys).length = len + len' := by rw [List.length_append, hl, hl']
          have h5 := rep_lay (M := M) (b := w.heap.size) (o := .no) (cap := nc) (n := (len + len') * i.size) hrow (cell_none_of_size hw.cells (Nat.le_refl _)) (by omega) hn2 trivial
          rw [hcells]
          rw [hlen] at h5
          exact (h5.mono le3).flag _ (by simp [MM.owns, MM.withHist])
        · intro j hj
          funext k
          simp [MM.withHist, hj, MM.lay, MM.withCells]
      · have hrun := r1 hge
        by_cases hy : ys = []
        · -- nothing is appended
          subst hy
          have hl0 : len' = 0 := by simpa using hl'.symm
          subst hl0
          have hnew0 : new = #[] := by
            apply Array.eq_empty_of_size_eq_zero; rw [ns]; simp
          subst hnew0
          have hrun2 : (Builtin.append_ ts rty args).run P w = .ok (.slice a len cap) w := by
            rw [hrun]
            cases a <;> simp [storeCells]
          have hroom' : cap = len ∨ ∃ b vs ty fz, a = some ⟨b, 0, none⟩ ∧ w0.w.heap.size ≤ b ∧ (own b = none ∨ own b = some id) ∧ w.heap[b]? = some (.cells vs ty fz) ∧ unfrozen fz vs.size ∧ cap * i.size ≤ vs.size ∧ ∀ o, len * i.size ≤ o → M.cell b o = none := by
            rcases hroom a len cap rfl with q | ⟨b, vs, ty, fz, _, _, ha, r, _⟩
            · exact .inl q
            · rw [hcells] at r
              exact .inr ⟨b, vs, ty, fz, ha, r.base, .inr r.own, r.blk, r.fz, r.cap, r.none⟩
          obtain ⟨own', hw3⟩ := hw.setFam (id := id) (ver := ver) hver i.size hroom'
          have le3 := MM.le_withHist (id := id) (ver := ver) (v := .slice a len cap) (hver ver (Nat.le_refl _))
          refine ⟨_, _, own', w, hrun2, le3, by rw [hcells]; exact hw3, ?_, rfl, ?_⟩
          · rw [List.append_nil, hcells]
            exact ((hrep.resize hsz).mono le3).flag _ (by simp [MM.owns, MM.withHist])
          · intro j hj
            funext k
            simp [MM.withHist, hj]
        · -- room behind the end
          have hpos : 0 < len' := by
            rw [← hl']; exact List.length_pos_iff.2 hy
          rcases hroom a len cap rfl with q | ⟨b1, vs1, ty1, fz1, ver', sz2, ha1, r, hσ⟩
          · omega
          · rw [hcells] at r
            subst ha1
            have hnl : new.toList.length = len' * i.size := by rw [Array.length_toList, ns, hl']
            have hfit : len * i.size + new.toList.length ≤ vs1.size := by
              rw [hnl, ← Nat.add_mul]; exact Nat.le_trans (Nat.mul_le_mul_right _ hge) r.cap
            have hstore := run_storeCells' (P := P) (b := b1) (off := len * i.size) new.toList 0 w vs1 r.blk none1 (by simpa using hfit) r.fz
            rw [Nat.add_zero] at hstore
            let vs2 := putCells vs1 (len * i.size) new.toList
            have hsame : ∀ o, o < len * i.size → vs2[o]? = vs1[o]? := fun o ho => by
              simp only [vs2]; rw [putCells_get _ _ _ _ hfit, if_neg (by omega)]
            have hw2 := hw.fillRoom hσ r ((len + len') * i.size) (vs' := vs2) (putCells_size _ _ _) hsame
            have le2 : M.Le (M.more b1 (len * i.size) ((len + len') * i.size) vs2) := MM.le_more r.none
            obtain ⟨own', hw3⟩ := hw2.setFam (id := id) (ver := ver) hver (a := some ⟨b1, 0, none⟩) (len := len + len') (cap := cap) i.size
              (.inr ⟨b1, vs2, ty1, fz1, rfl, r.base, .inr r.own, putBlock_same r.blk, by simp only [vs2, putCells_size]; exact r.fz, by simp only [vs2, putCells_size]; exact r.cap, fun o ho => by
                simp only [MM.more, MM.withCells, if_true]
                rw [if_neg (by omega)]
                exact r.none o (by rw [Nat.add_mul] at ho; omega)⟩)
            have le3 := MM.le_withHist (M := M.more b1 (len * i.size) ((len + len') * i.size) vs2) (id := id) (ver := ver) (v := .slice (some ⟨b1, 0, none⟩) (len + len') cap) (hver ver (Nat.le_refl _))
            have hσ2 : upd (upd σ id .dead) id (.fam ver i.size) = upd σ id (.fam ver i.size) := by
              funext j; by_cases e : j = id <;> simp [upd, e]
            rw [hσ2] at hw3
            refine ⟨.slice (some ⟨b1, 0, none⟩) (len + len') cap, _, own', putBlock w b1 (.cells vs2 ty1 fz1), ?_, le2.trans le3, by rw [hcells]; exact hw3, ?_, rfl, ?_⟩
            · rw [hrun]
              simp only [addr_add, Nat.zero_add, Sem.run_bind, hstore, Result.andThen_ok, Sem.run_pure]
              rfl
            · rw [hcells]
              refine Rep.flag (o := .no) ?_ _ (by simp [MM.owns, MM.withHist])
              refine Rep.mono ?_ le3
              -- the list in the block
              have hsplit : ∀ {k : Nat} {x : D}, (xs ++ ys)[k]? = some x → (k < len ∧ xs[k]? = some x) ∨ (len ≤ k ∧ k < len + len' ∧ ys[k - len]? = some x) := by
                intro k x hx
                rw [List.getElem?_append] at hx
                split at hx
                · exact .inl ⟨by omega, hx⟩
                · refine .inr ⟨by omega, ?_, by rw [← hl]; exact hx⟩
                  have : k - xs.length < ys.length := by
                    rcases Nat.lt_or_ge (k - xs.length) ys.length with q | q
                    · exact q
                    · simp [List.getElem?_eq_none q] at hx
                  omega
              have hold : ∀ {k : Nat} {x : D} {cs : List D} {j : Nat} {c : D}, xs[k]? = some x → x.cells = some cs → cs[j]? = some c → M.cell b1 (k * i.size + j) = some (vs k j) ∧ Rep M.bare c (vs k j) := by
                intro k x cs j c hx hcs hj
                have hne : xs ≠ [] := fun e => by subst e; simp at hx
                have e1 := ha hne
                obtain ⟨rfl, rfl⟩ : b1 = b ∧ 0 = off := by simpa using e1
                have e2 : sz = i.size := hsz.resolve_right hne
                have h5 := hc k x cs j c hx hcs hj
                rw [e2, Nat.zero_add] at h5
                exact ⟨h5, hr k x cs j c hx hcs hj⟩
              have hjlt : ∀ {k : Nat} {x : D} {cs : List D} {j : Nat} {c : D}, (xs ++ ys)[k]? = some x → x.cells = some cs → cs[j]? = some c → j < i.size := by
                intro k x cs j c hx hcs hj
                have hlen : cs.length = i.size := by
                  rcases hsplit hx with ⟨_, h⟩ | ⟨_, _, h⟩
                  · obtain ⟨cs', q1, q2⟩ := orow.elem _ x h; rw [hcs] at q1; obtain rfl := Option.some.inj q1; exact q2
                  · obtain ⟨cs', q1, q2⟩ := nrow.elem _ x h; rw [hcs] at q1; obtain rfl := Option.some.inj q1; exact q2
                rcases Nat.lt_or_ge j cs.length with q | q
                · omega
                · simp [List.getElem?_eq_none q] at hj
              refine .lst b1 0 (fun k j => if k < len then vs k j else (new[(k - len) * i.size + j]?).getD .nilFunc) (by rw [List.length_append, hl, hl']) hge (fun _ => rfl) ?_ ?_ ?_ ?_ trivial
              · intro k x hx
                rcases hsplit hx with ⟨_, h⟩ | ⟨_, _, h⟩
                · exact orow.elem _ x h
                · exact nrow.elem _ x h
              · intro k x cs j c hx hcs hj
                have hjl := hjlt hx hcs hj
                rw [Nat.zero_add]
                simp only [MM.more, MM.withCells, if_true]
                rcases hsplit hx with ⟨hk, h⟩ | ⟨hk, hk2, h⟩
                · have := row_lt hk hjl
                  rw [if_neg (by omega), if_pos hk]
                  exact (hold h hcs hj).1
                · have h6 := row_lt hk2 hjl
                  have h7 : len * i.size ≤ k * i.size := Nat.mul_le_mul_right _ hk
                  rw [if_pos ⟨by omega, h6⟩, if_neg (by omega)]
                  obtain ⟨v, hv, _⟩ := nrow.get _ x cs j c h hcs hj
                  have e : k * i.size + j - len * i.size = (k - len) * i.size + j := by
                    rw [Nat.sub_mul]; omega
                  simp only [vs2]
                  rw [putCells_get _ _ _ _ hfit, if_pos ⟨by omega, by rw [hnl, ← Nat.add_mul]; exact h6⟩, e, Array.getElem?_toList, hv]
                  rfl
              · intro k x cs j c hx hcs hj
                rcases hsplit hx with ⟨hk, h⟩ | ⟨hk, _, h⟩
                · simp only [if_pos hk]
                  exact (hold h hcs hj).2.mono le2.bare
                · simp only [if_neg (show ¬ k < len by omega)]
                  obtain ⟨v, hv, hrv⟩ := nrow.get _ x cs j c h hcs hj
                  rw [hv]
                  exact hrv.mono le2.bare
              · intro k x cs c hx hcs hcc
                rcases hsplit hx with ⟨_, h⟩ | ⟨_, _, h⟩
                · exact orow.st _ x cs c h hcs hcc
                · exact nrow.st _ x cs c h hcs hcc
            · intro j hj
              funext k
              simp [MM.withHist, hj, MM.more, MM.withCells]
end

end Go.Ev
