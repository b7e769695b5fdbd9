/- The evaluation of one operation is sound: first part (what was asked; reads, literals, integers). -/
import Derived.Test.YteakhlhhmgpidaaEvD
namespace Go.Ev
open Go Go.RowKit
set_option linter.unusedVariables false
set_option linter.unusedSimpArgs false

/-! ### What was asked, was answered truly -/
section
variable {ρ : Type} {P : Program} {r : ρ}
theorem chk_out {b : Bool} {k : Option ρ} (h : chk b k = some r) : b = true ∧ k = some r := by
  cases b
  · cases h
  · exact ⟨rfl, h⟩
theorem ask_out {z : Z P} {b : Bool} {k : Z P → Option ρ} (h : ask z b k = some r) : ∃ z', k z' = some r ∧ (z'.c → z.c ∧ b = true) := by
  unfold ask at h
  split at h
  · rename_i q hq rest _
    exact ⟨_, h, fun c => ⟨c.2, c.1 ▸ hq⟩⟩
  · cases h
theorem askIf_out {z : Z P} {st b : Bool} {k : Z P → Option ρ} (h : askIf z st b k = some r) : ∃ z', k z' = some r ∧ (z'.c → z.c ∧ b = true) := by
  unfold askIf at h
  split at h
  · obtain ⟨h1, h2⟩ := chk_out h
    exact ⟨z, h2, fun c => ⟨c, h1⟩⟩
  · exact ask_out h
theorem askLen_out {z : Z P} {n m : Nat} {k : Z P → Option ρ} (h : askLen z n m k = some r) : ∃ z', k z' = some r ∧ (z'.c → z.c ∧ n ≤ m) := by
  unfold askLen at h
  split at h
  · rename_i n' m' hn rest _
    exact ⟨_, h, fun c => ⟨c.2, c.1.1 ▸ c.1.2 ▸ hn⟩⟩
  · cases h
theorem branch_out {z : Z P} {b : Bool} {k1 k2 : Z P → Option ρ} (h : branch z b k1 k2 = some r) :
    ∃ z', (k1 z' = some r ∧ (z'.c → z.c ∧ b = true)) ∨ (k2 z' = some r ∧ (z'.c → z.c ∧ b = false)) := by
  unfold branch at h
  split at h
  · rename_i q v hq rest _
    cases v
    · exact ⟨_, .inr ⟨h, fun c => ⟨c.2, c.1 ▸ hq⟩⟩⟩
    · exact ⟨_, .inl ⟨h, fun c => ⟨c.2, c.1 ▸ hq⟩⟩⟩
  · cases h
theorem pick_out {z : Z P} {l : List D} {i : Nat} {k : Z P → D → Option ρ} (h : pick z l i k = some r) : ∃ z' d, k z' d = some r ∧ (z'.c → z.c ∧ l[i]? = some d) := by
  unfold pick at h
  split at h
  · rename_i l' i' d hg rest _
    exact ⟨_, d, h, fun c => ⟨c.2, c.1.1 ▸ c.1.2 ▸ hg⟩⟩
  · cases h

/-- What 'partc' gives. -/
def PartOK (P : Program) (t : TypeId) (cs : List D) (off : Nat) (d : D) : Prop :=
  ∃ e, P.underlying t = some e ∧ ((aggDesc e = true ∧ off + P.cellsOf t ≤ cs.length ∧ d = .agg ((cs.drop off).take (P.cellsOf t))) ∨ (aggDesc e = false ∧ cs[off]? = some d))
theorem partc_out {z : Z P} {dyn : Bool} {t : TypeId} {cs : List D} {off : Nat} {k : Z P → D → Option ρ} (h : partc P z dyn t cs off k = some r) :
    ∃ z' d, k z' d = some r ∧ (z'.c → z.c ∧ PartOK P t cs off d) := by
  unfold partc at h
  split at h
  · cases h
  · rename_i e he
    split at h
    · rename_i ha
      obtain ⟨hk, h⟩ := chk_out h
      split at h
      · obtain ⟨h1, h2⟩ := chk_out h
        exact ⟨z, _, h2, fun c => ⟨c, e, he, .inl ⟨ha, by simpa using h1, rfl⟩⟩⟩
      · split at h
        · rename_i l i n l' hg rest _
          refine ⟨_, _, h, fun c => ⟨c.2, e, he, .inl ⟨ha, ?_, ?_⟩⟩⟩
          · rw [← c.1.1, ← c.1.2.1, ← c.1.2.2]; exact hg.2
          · rw [← c.1.1, ← c.1.2.1, ← c.1.2.2, hg.1]
        · cases h
    · rename_i ha
      split at h
      · split at h
        · rename_i d hd
          exact ⟨z, d, h, fun c => ⟨c, e, he, .inr ⟨ha, hd⟩⟩⟩
        · cases h
      · obtain ⟨z', d, h1, h2⟩ := pick_out h
        exact ⟨z', d, h1, fun c => ⟨(h2 c).1, e, he, .inr ⟨ha, (h2 c).2⟩⟩⟩

/-- 'part' of an array gives what 'partc' gives of its list. -/
theorem run_part_ok {M : MM} {t : TypeId} {cs : List D} {off : Nat} {d : D} (hp : PartOK P t cs off d) {vs : Array Value} (h : RepL M cs vs) : ∃ v, Rep M d v ∧ ∀ w : World, (part t vs off).run P w = .ok v w := by
  obtain ⟨e, he, ⟨ha, hl, rfl⟩ | ⟨ha, hd⟩⟩ := hp
  · have hsub := h.sub off (P.cellsOf t) hl
    exact ⟨_, .agg hsub.1 hsub.2, fun w => run_part_agg he ha vs off w⟩
  · obtain ⟨v, hv, hr⟩ := h.get hd
    exact ⟨v, hr, fun w => run_part_one he ha hv w⟩
/-- 'loadVar' in a row of cells gives what 'partc' gives of its list. -/
theorem run_loadVar_ok {M : MM} {t : TypeId} {cs : List D} {off b base : Nat} {d : D} (hp : PartOK P t cs off d) {w : World} (vs : Nat → Value)
    (hc : ∀ j c, cs[j]? = some c → w.cell? ⟨b, base + j, none⟩ = some (vs j) ∧ Rep M c (vs j)) : ∃ v, (loadVar t ⟨b, base + off, none⟩).run P w = .ok v w ∧ Rep M d v := by
  obtain ⟨e, he, ⟨ha, hl, rfl⟩ | ⟨ha, hd⟩⟩ := hp
  · let ws : Array Value := ((List.range (P.cellsOf t)).map fun j => vs (off + j)).toArray
    have hws : ∀ j v, ws[j]? = some v → j < P.cellsOf t ∧ v = vs (off + j) := by
      intro j v hj
      simp only [ws, List.getElem?_toArray, List.getElem?_map, Option.map_eq_some_iff] at hj
      obtain ⟨x, hx, rfl⟩ := hj
      have hlt : j < P.cellsOf t := by
        rcases Nat.lt_or_ge j (P.cellsOf t) with h | h
        · exact h
        · rw [List.getElem?_eq_none (by simpa using h)] at hx; cases hx
      rw [List.getElem?_range hlt] at hx
      cases hx
      exact ⟨hlt, rfl⟩
    have hcs : ∀ j, j < P.cellsOf t → ∃ c, cs[off + j]? = some c := fun j hj => ⟨cs[off + j]'(by omega), by simp [show off + j < cs.length by omega]⟩
    refine ⟨.agg ws, run_loadVar_agg he ha ws (by simp [ws]) ?_, .agg ?_ ?_⟩
    · intro j v hj
      obtain ⟨h1, rfl⟩ := hws j v hj
      obtain ⟨c, hcc⟩ := hcs j h1
      rw [Nat.add_assoc]
      exact (hc _ c hcc).1
    · simp [ws]; omega
    · intro i c v a b
      obtain ⟨h1, rfl⟩ := hws i v b
      rw [List.getElem?_take, if_pos h1, List.getElem?_drop] at a
      exact (hc _ c a).2
  · obtain ⟨h1, h2⟩ := hc off d hd
    exact ⟨vs off, run_loadVar_one he ha h1, h2⟩
end

/-! ### What is shown of an operation -/
def Eff.pre (e : Eff) (M : MM) (σ : Nat → Ob) (id : Nat) : Prop := match e with
  | .pure _ => True
  | .read i o _ => σ i = o
  | .upd i o _ _ => σ i = o
  | .new _ _ => M.box id = none ∧ ∀ v, M.hist id v = none
  | .all _ _ => False
def Eff.post (e : Eff) (σ : Nat → Ob) (id : Nat) : Nat → Ob := match e with
  | .upd i _ o' _ => Ev.upd σ i o'
  | .new o _ => Ev.upd σ id o
  | _ => σ
def Eff.val (e : Eff) (id : Nat) : D := match e with
  | .pure d => d
  | .read _ _ d => d
  | .upd _ _ _ d => d
  | .new _ mk => mk id
  | .all _ d => d
def Eff.adds (e : Eff) (M M' : MM) (id : Nat) : Prop := match e with
  | .upd i _ _ _ => M'.box = M.box ∧ ∀ j, j ≠ i → M'.hist j = M.hist j
  | .new _ _ => (∀ j, j ≠ id → M'.box j = M.box j) ∧ ∀ j, j ≠ id → M'.hist j = M.hist j
  | _ => M'.box = M.box ∧ M'.hist = M.hist
/-- An operation, its operands as 'ρ' tells, has an effect. -/
def OpOK (P : Program) (o : Oper) (ρ : Operand → D) (e : Eff) : Prop :=
  ∀ (w0 : Base) (M : MM) (own : Nat → Option Nat) (σ : Nat → Ob) (w : World) (a : Act) (id : Nat), WRel w0 M own σ w → (∀ x ∈ o.op.operands, Rep M (ρ x) (a.eval x)) → e.pre M σ id →
    ∀ (next : Act → World → Prop) (Q : Exit → Act → World → Prop),
      (∀ v M' own' w', M.Le M' → e.adds M M' id → WRel w0 M' own' (e.post σ id) w' → Rep M' (e.val id) v → next (a.put o.dst v) w') → o.wp P a w next Q

section
variable {P : Program} {o : Oper} {ρ : Operand → D}
theorem wp_value {a : Act} {w w' : World} {v : Value} {next : Act → World → Prop} {Q : Exit → Act → World → Prop} (h : (execOp a.eval o).run P w = .ok (.value v) w') (k : next (a.put o.dst v) w') : o.wp P a w next Q := by
  unfold Oper.wp; rw [h]; exact k
theorem wp_skip' {a : Act} {w w' : World} {next : Act → World → Prop} {Q : Exit → Act → World → Prop} (h : (execOp a.eval o).run P w = .ok .skip w') (k : next (a.put o.dst undef) w') : o.wp P a w next Q := by
  unfold Oper.wp; rw [h]; exact k

/-- An operation that only reckons. -/
theorem opOK_pure {d : D} (h : ∀ (M : MM) (w : World) (a : Act), (∀ b o v, M.cell b o = some v → w.cell? ⟨b, o, none⟩ = some v) → (∀ x ∈ o.op.operands, Rep M (ρ x) (a.eval x)) →
    ∃ v, (execOp a.eval o).run P w = .ok (.value v) w ∧ Rep M d v) : OpOK P o ρ (.pure d) := by
  intro w0 M own σ w a id hw hr _ next Q hn
  obtain ⟨v, h1, h2⟩ := h M w a hw.cells hr
  exact wp_value h1 (hn v M own w (.refl M) ⟨rfl, rfl⟩ hw h2)

/-- An operation that lays a row of cells that stay. -/
theorem opOK_lay {d : D} (h : ∀ (M : MM) (w : World) (a : Act), (∀ b o v, M.cell b o = some v → w.cell? ⟨b, o, none⟩ = some v) → (∀ x ∈ o.op.operands, Rep M (ρ x) (a.eval x)) →
    ∃ v M' w', (execOp a.eval o).run P w = .ok (.value v) w' ∧ Ext M w M' w' ∧ M'.box = M.box ∧ M'.hist = M.hist ∧ Rep M' d v) : OpOK P o ρ (.pure d) := by
  intro w0 M own σ w a id hw hr _ next Q hn
  obtain ⟨v, M', w', h1, h2, h3, h4, h5⟩ := h M w a hw.cells hr
  obtain ⟨k1, k2⟩ := hw.ext h2 h3 h4
  exact wp_value h1 (hn v M' own w' k2 ⟨h3, h4⟩ k1 h5)

theorem op_eta {dst : Option Tmp} {op : Op} {ty : TypeId} {pos : String} {after : Array Edge} {g : Option (Nat × Bool)} {ρ : Operand → Value} : execOp ρ ⟨dst, op, ty, pos, after, g⟩ = execOp ρ ⟨dst, op, ty, pos, after, g⟩ := rfl

/-! ### Reads -/
theorem ok_load_box {ty : TypeId} {x : Operand} {dyn : Bool} {id off : Nat} {cs : List D} {d : D} (ho : o.op = .load ty x) (hx : ρ x = .ptr dyn id off) (hp : PartOK P ty cs off d) : OpOK P o ρ (.read id (.box cs) d) := by
  intro w0 M own σ w a i hw hr hpre next Q hn
  obtain ⟨b, vs, t, k⟩ := hw.box id cs hpre
  have hxr := hr x (by simp [ho, Op.operands])
  rw [hx] at hxr
  generalize hv : a.eval x = v at hxr
  cases hxr with
  | ptr _ hb =>
    rename_i b'
    rw [k.box] at hb
    obtain rfl := Option.some.inj hb
    have hcell : ∀ j c, cs[j]? = some c → w.cell? ⟨b, 0 + j, none⟩ = some (vs.getD j .nilFunc) ∧ Rep M c (vs.getD j .nilFunc) := by
      intro j c hj
      obtain ⟨u, hu, hru⟩ := RepL.get ⟨k.len, k.rep⟩ hj
      rw [Array.getD_eq_getD_getElem?, hu]
      refine ⟨?_, hru⟩
      simp [World.cell?, k.blk, hu]
    obtain ⟨v, h1, h2⟩ := run_loadVar_ok hp (fun j => vs.getD j .nilFunc) hcell
    rw [Nat.zero_add] at h1
    refine wp_value (v := v) (w' := w) ?_ (hn v M own w (.refl M) ⟨rfl, rfl⟩ hw h2)
    simp [execOp, ho, Instr.loadAt, Instr.sureAddr, hv, h1]

theorem ok_load_elem {ty : TypeId} {x : Operand} {dyn : Bool} {y : D} {off : Nat} {cs : List D} {d : D} (ho : o.op = .load ty x) (hx : ρ x = .eptr dyn y off) (hy : y.cells = some cs) (hp : PartOK P ty cs off d) : OpOK P o ρ (.pure d) := by
  refine opOK_pure fun M w a hc hr => ?_
  have hxr := hr x (by simp [ho, Op.operands])
  rw [hx] at hxr
  generalize hv : a.eval x = v at hxr
  cases hxr with
  | eptr _ vs hx' hc' hr' =>
    rw [hy] at hx'
    obtain rfl := Option.some.inj hx'
    obtain ⟨v, h1, h2⟩ := run_loadVar_ok (M := M) (w := w) hp vs (fun j c hj => ⟨hc _ _ _ (hc' j c hj), (hr' j c hj).mono (MM.bare_le M)⟩)
    exact ⟨v, by simp [execOp, ho, Instr.loadAt, Instr.sureAddr, hv, h1], h2⟩

/-! ### Moves -/
theorem ok_move {x : Operand} (ho : o.op = .move x ∨ o.op = .assign x) : OpOK P o ρ (.pure (ρ x)) :=
  opOK_pure fun M w a _ hr => ⟨a.eval x, by rcases ho with h | h <;> simp [execOp, h], hr x (by rcases ho with h | h <;> simp [h, Op.operands])⟩
theorem ok_pick {c x y : Operand} {q : Bool} (ho : o.op = .pick c x y) (hc : ρ c = .bool q) : OpOK P o ρ (.pure (if q then ρ x else ρ y)) := by
  refine opOK_pure fun M w a _ hr => ?_
  have h1 := hr c (by simp [ho, Op.operands])
  rw [hc] at h1
  generalize hv : a.eval c = v at h1
  cases h1
  have h2 := hr x (by simp [ho, Op.operands])
  have h3 := hr y (by simp [ho, Op.operands])
  refine ⟨if q then a.eval x else a.eval y, ?_, by cases q <;> simpa⟩
  cases q <;> simp [execOp, ho, asBool, hv]
theorem ok_nilCheck {x : Operand} (ho : o.op = .nilCheck x) (hx : (∃ q i f, ρ x = .ptr q i f) ∨ (∃ q y f, ρ x = .eptr q y f) ∨ ∃ g l r, ρ x = .fn (.func g) l r) : OpOK P o ρ (.pure (ρ x)) := by
  refine opOK_pure fun M w a _ hr => ?_
  have h1 := hr x (by simp [ho, Op.operands])
  refine ⟨a.eval x, ?_, h1⟩
  generalize hv : a.eval x = v at h1
  rcases hx with ⟨q, i, f, e⟩ | ⟨q, y, f, e⟩ | ⟨g, l, r, e⟩ <;> rw [e] at h1 <;> cases h1 <;> simp [execOp, ho, hv]
theorem ok_extract {x : Operand} {i : Nat} {ds : List D} {d : D} (ho : o.op = .extract x i) (hx : ρ x = .tup ds) (hd : ds[i]? = some d) : OpOK P o ρ (.pure d) := by
  refine opOK_pure fun M w a _ hr => ?_
  have h1 := hr x (by simp [ho, Op.operands])
  rw [hx] at h1
  generalize hv : a.eval x = v at h1
  cases h1 with
  | tup hl hrep =>
    obtain ⟨u, hu, hru⟩ := RepL.get ⟨hl, hrep⟩ hd
    exact ⟨u, by simp [execOp, ho, Instr.extract, hv, hu], hru⟩
theorem ok_makeFunc {f : Fn} {first cap : Array Operand} (ho : o.op = .makeFunc f first cap) : OpOK P o ρ (.pure (.fn f (first.toList.map ρ) (cap.toList.map ρ))) := by
  refine opOK_pure fun M w a _ hr => ?_
  refine ⟨.func f (first.map a.eval) (cap.map a.eval), by simp [execOp, ho, Instr.makeFunc], .fn (by simp) (by simp) ?_ ?_⟩
  · intro i d v h1 h2
    rw [List.getElem?_map, Option.map_eq_some_iff] at h1
    obtain ⟨x, hx, rfl⟩ := h1
    rw [Array.getElem?_toList] at hx
    rw [Array.getElem?_map, hx] at h2
    simp only [Option.map_some, Option.some.injEq] at h2
    subst h2
    exact hr x (by simp [ho, Op.operands, Array.mem_of_getElem? hx])
  · intro i d v h1 h2
    rw [List.getElem?_map, Option.map_eq_some_iff] at h1
    obtain ⟨x, hx, rfl⟩ := h1
    rw [Array.getElem?_toList] at hx
    rw [Array.getElem?_map, hx] at h2
    simp only [Option.map_some, Option.some.injEq] at h2
    subst h2
    exact hr x (by simp [ho, Op.operands, Array.mem_of_getElem? hx])

/-! ### Addresses and parts -/
theorem ok_fieldAddr {s : TypeId} {x : Operand} {f : Nat} {fields : Array Field} {fd : Field} (ho : o.op = .fieldAddr s x f) (hs : P.underlying s = some (.struct fields)) (hf : fields[f]? = some fd)
    (hk : known P fd.type = true) (hpos : 0 < P.cellsOf fd.type) :
    (∀ q i off, ρ x = .ptr q i off → OpOK P o ρ (.pure (.ptr q i (off + fd.offset)))) ∧ (∀ q y off, ρ x = .eptr q y off → OpOK P o ρ (.pure (.eptr q y (off + fd.offset)))) := by
  constructor
  · intro q i off hx
    refine opOK_pure fun M w a _ hr => ?_
    have h1 := hr x (by simp [ho, Op.operands])
    rw [hx] at h1
    generalize hv : a.eval x = v at h1
    cases h1 with
    | ptr _ hb =>
      refine ⟨_, ?_, .ptr q hb⟩
      simp [execOp, ho, Instr.fieldAt, run_underlying hs, hf, hv, Instr.sureAddr, fieldPlace, run_sizeOf' hk, Nat.ne_of_gt hpos, addr_add]
  · intro q y off hx
    refine opOK_pure fun M w a _ hr => ?_
    have h1 := hr x (by simp [ho, Op.operands])
    rw [hx] at h1
    generalize hv : a.eval x = v at h1
    cases h1 with
    | eptr _ vs hx' hc' hr' =>
      refine ⟨_, ?_, .eptr q vs hx' hc' hr'⟩
      simp [execOp, ho, Instr.fieldAt, run_underlying hs, hf, hv, Instr.sureAddr, fieldPlace, run_sizeOf' hk, Nat.ne_of_gt hpos, addr_add, Nat.add_assoc]
theorem ok_field {ty : TypeId} {x : Operand} {f : Nat} {fields : Array Field} {fd : Field} {cs : List D} {d : D} (ho : o.op = .field ty x f) (hs : P.underlying ty = some (.struct fields)) (hf : fields[f]? = some fd)
    (hx : ρ x = .agg cs) (hp : PartOK P fd.type cs fd.offset d) : OpOK P o ρ (.pure d) := by
  refine opOK_pure fun M w a _ hr => ?_
  have h1 := hr x (by simp [ho, Op.operands])
  rw [hx] at h1
  generalize hv : a.eval x = v at h1
  cases h1 with
  | agg hl hrep =>
    obtain ⟨v, h2, h3⟩ := run_part_ok hp ⟨hl, hrep⟩
    exact ⟨v, by simp [execOp, ho, Instr.field, run_underlying hs, hf, hv, asAgg, h3], h2⟩

theorem int_of_rep {M : MM} {d : D} {v : Value} {k : IntKind} {n : Int} (h : Rep M d v) (e : d = .int k n) : v = .int k n := by subst e; cases h; rfl

theorem ok_indexAddr {ty : TypeId} {x ix : Operand} {k : IntKind} {i : Int} {len : Nat} {elem : TypeId} (ho : o.op = .indexAddr ty x ix) (hi : ρ ix = .int k i) (ht : P.underlying ty = some (.array len elem)) (hk : known P elem = true) (hb : 0 ≤ i ∧ i < len) (dyn : Bool) :
    (∀ q id off, ρ x = .ptr q id off → OpOK P o ρ (.pure (.ptr dyn id (off + i.toNat * P.cellsOf elem)))) ∧ (∀ q y off, ρ x = .eptr q y off → OpOK P o ρ (.pure (.eptr dyn y (off + i.toNat * P.cellsOf elem)))) := by
  constructor
  · intro q id off hx
    refine opOK_pure fun M w a _ hr => ?_
    have h1 := hr x (by simp [ho, Op.operands])
    have h2 := int_of_rep (hr ix (by simp [ho, Op.operands])) hi
    rw [hx] at h1
    generalize hv : a.eval x = v at h1
    cases h1 with
    | ptr _ hb' =>
      refine ⟨_, ?_, .ptr dyn hb'⟩
      simp [execOp, ho, Instr.indexAt, h2, asIntOf, run_underlying ht, hv, Instr.sureAddr, hb, run_sizeOf' hk, addr_add]
  · intro q y off hx
    refine opOK_pure fun M w a _ hr => ?_
    have h1 := hr x (by simp [ho, Op.operands])
    have h2 := int_of_rep (hr ix (by simp [ho, Op.operands])) hi
    rw [hx] at h1
    generalize hv : a.eval x = v at h1
    cases h1 with
    | eptr _ vs hx' hc' hr' =>
      refine ⟨_, ?_, .eptr dyn vs hx' hc' hr'⟩
      simp [execOp, ho, Instr.indexAt, h2, asIntOf, run_underlying ht, hv, Instr.sureAddr, hb, run_sizeOf' hk, addr_add, Nat.add_assoc]
theorem ok_indexAddr_lst {ty : TypeId} {x ix : Operand} {k : IntKind} {i : Int} {elem : TypeId} {ow : Own} {sz : Nat} {xs : List D} {y : D} (ho : o.op = .indexAddr ty x ix) (hi : ρ ix = .int k i) (ht : P.underlying ty = some (.slice elem)) (hk : known P elem = true)
    (hsz : P.cellsOf elem = sz) (hb : 0 ≤ i) (hx : ρ x = .lst ow sz xs) (hy : xs[i.toNat]? = some y) : OpOK P o ρ (.pure (.eptr false y 0)) := by
  refine opOK_pure fun M w a _ hr => ?_
  have h1 := hr x (by simp [ho, Op.operands])
  have h2 := int_of_rep (hr ix (by simp [ho, Op.operands])) hi
  rw [hx] at h1
  generalize hv : a.eval x = v at h1
  cases h1 with
  | lst b off vs hl hcap ha hs hc hrr hst hown =>
    rename_i ad len cap
    have hlt : i.toNat < xs.length := by
      rcases Nat.lt_or_ge i.toNat xs.length with h | h
      · exact h
      · simp [List.getElem?_eq_none h] at hy
    have hne : xs ≠ [] := fun e => by simp [e] at hlt
    obtain rfl := ha hne
    obtain ⟨cs, hcs, hlen⟩ := hs _ _ hy
    refine ⟨.pointer (some ⟨b, (off + i.toNat * sz) + 0, none⟩), ?_, .eptr false (fun j => vs i.toNat j) hcs (fun j c hj => hc _ _ _ j c hy hcs hj) (fun j c hj => hrr _ _ _ j c hy hcs hj)⟩
    have : i < len := by omega
    simp [execOp, ho, Instr.indexAt, h2, asIntOf, run_underlying ht, hv, hb, this, run_sizeOf' hk, addr_add, hsz]
theorem ok_index_arr {ty : TypeId} {x ix : Operand} {k : IntKind} {i : Int} {len : Nat} {elem : TypeId} {cs : List D} {d : D} (ho : o.op = .index ty x ix) (hi : ρ ix = .int k i) (ht : P.underlying ty = some (.array len elem)) (hk : known P elem = true) (hb : 0 ≤ i ∧ i < len)
    (hx : ρ x = .agg cs) (hp : PartOK P elem cs (i.toNat * P.cellsOf elem) d) : OpOK P o ρ (.pure d) := by
  refine opOK_pure fun M w a _ hr => ?_
  have h1 := hr x (by simp [ho, Op.operands])
  have h2 := int_of_rep (hr ix (by simp [ho, Op.operands])) hi
  rw [hx] at h1
  generalize hv : a.eval x = v at h1
  cases h1 with
  | agg hl hrep =>
    obtain ⟨v, h3, h4⟩ := run_part_ok hp ⟨hl, hrep⟩
    exact ⟨v, by simp [execOp, ho, Instr.index, h2, asIntOf, run_underlying ht, hv, hb, run_sizeOf' hk, h4], h3⟩
theorem ok_index_str {ty : TypeId} {x ix : Operand} {k : IntKind} {i : Int} {s : ByteArray} {d : D} (ho : o.op = .index ty x ix) (hi : ρ ix = .int k i) (ht : P.underlying ty = some .string) (hb : 0 ≤ i)
    (hx : ρ x = .str s) (hp : (bytesD s)[i.toNat]? = some d) : OpOK P o ρ (.pure d) := by
  refine opOK_pure fun M w a _ hr => ?_
  have h1 := hr x (by simp [ho, Op.operands])
  have h2 := int_of_rep (hr ix (by simp [ho, Op.operands])) hi
  rw [hx] at h1
  generalize hv : a.eval x = v at h1
  cases h1
  unfold bytesD at hp
  rw [List.getElem?_map, Option.map_eq_some_iff] at hp
  obtain ⟨c, hc, rfl⟩ := hp
  rw [Array.getElem?_toList] at hc
  have hc' : s[i.toNat]? = some c := by
    have hlt : i.toNat < s.data.size := by
      rcases Nat.lt_or_ge i.toNat s.data.size with h | h
      · exact h
      · simp [Array.getElem?_eq_none h] at hc
    have hlt' : i.toNat < s.size := hlt
    rw [getElem?_pos s i.toNat hlt']
    rw [getElem?_pos s.data i.toNat hlt] at hc
    exact hc
  exact ⟨.int .u8 c.toNat, by simp [execOp, ho, Instr.index, h2, asIntOf, run_underlying ht, hv, hb, hc'], .int _ _⟩
end

end Go.Ev
