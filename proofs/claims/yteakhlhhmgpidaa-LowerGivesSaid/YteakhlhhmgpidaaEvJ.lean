/- The evaluation of one operation is sound: the theorem over all operations. -/
import Derived.Test.YteakhlhhmgpidaaEvI
namespace Go.Ev
open Go Go.RowKit
set_option linter.unusedVariables false
set_option linter.unusedSimpArgs false

/-- What a call comes to that is evaluated in the caller's own store. -/
structure CallRun (P : Program) (f : FuncId) (args : List D) (s : List Ob) (d : D) (s' : List Ob) : Prop where
  ent : Ent P f
  len : s.length ≤ s'.length
  run : ∀ (w0 : Base) (M : MM) (own : Nat → Option Nat) (w : World) (vs : Array Value), WRel w0 M own (stAt s) w → M.upto s.length → RepL M args vs →
    Calls P f vs w fun e w' => ∃ v M' own', e = .returned v ∧ WRel w0 M' own' (stAt s') w' ∧ M'.upto s'.length ∧ M.Le M' ∧ Rep M' d v

def InlSound (P : Program) {ρ' : Type} (inl : Inl P ρ') : Prop := ∀ (g : FuncId) (args : List D) (s : List Ob) (z : Z P) (K : D → List Ob → Z P → Option ρ') (r : ρ'), inl g args s z K = some r →
  ∃ d s' z', K d s' z' = some r ∧ (z'.c → z.c ∧ CallRun P g args s d s')

/-- An operation that is a call in the caller's own store. -/
def OpAll (P : Program) (o : Oper) (ρ : Operand → D) (s s' : List Ob) (d : D) : Prop :=
  s.length ≤ s'.length ∧ ∀ (w0 : Base) (M : MM) (own : Nat → Option Nat) (w : World) (a : Act), WRel w0 M own (stAt s) w → M.upto s.length → (∀ x ∈ o.op.operands, Rep M (ρ x) (a.eval x)) →
    ∀ (next : Act → World → Prop) (Q : Exit → Act → World → Prop),
      (∀ v M' own' w', M.Le M' → M'.upto s'.length → WRel w0 M' own' (stAt s') w' → Rep M' d v → next (a.put o.dst v) w') → o.wp P a w next Q
def EffOK (P : Program) (o : Oper) (ρ : Operand → D) (s : List Ob) (e : Eff) : Prop := match e with
  | .all s' d => OpAll P o ρ s s' d
  | .read i ob d => (s.getD i .dead = ob ∧ i < s.length) ∧ OpOK P o ρ (.read i ob d)
  | .upd i ob ob' d => (s.getD i .dead = ob ∧ i < s.length) ∧ OpOK P o ρ (.upd i ob ob' d)
  | e => OpOK P o ρ e

theorem lt_of_getD {s : List Ob} {i : Nat} (h : s.getD i .dead ≠ .dead) : i < s.length := by
  rcases Nat.lt_or_ge i s.length with q | q
  · exact q
  · rw [List.getD_eq_getElem?_getD, List.getElem?_eq_none q] at h; exact absurd rfl h

/-! ### Calls -/
theorem exec_call {P : Program} {o : Oper} {ρv : Operand → Value} {c : Call} {f : Operand} {g : FuncId} {fv cv : Array Value} (ho : o.op = .call c) (hc : c.callee = .value f) (hf : ρv f = .func (.func g) fv cv) (he : Ent P g) (w : World) :
    (execOp ρv o).run P w = .ok (.enter g ((fv ++ c.args.map ρv) ++ cv)) w := by
  obtain ⟨fn, code, h1, h2, h3⟩ := he
  simp only [execOp, ho, resolve, hc, hf, Deferred.ofValue, Sem.run_bind, Sem.run_pure, Result.andThen_ok, invoke, callFunc, run_program, h1, h3, Bool.false_eq_true, if_false, h2, Option.isNone_some]
theorem wp_enter {P : Program} {o : Oper} {a : Act} {w : World} {g : FuncId} {vs : Array Value} {next : Act → World → Prop} {Q : Exit → Act → World → Prop} (h : (execOp a.eval o).run P w = .ok (.enter g vs) w)
    (k : Calls P g vs w fun e w' => ∃ v, e = .returned v ∧ next (a.put o.dst v) w') : o.wp P a w next Q := by
  unfold Oper.wp
  rw [h]
  refine Calls.mono k fun e w' hh => ?_
  obtain ⟨v, rfl, hn⟩ := hh
  exact hn

theorem RepL.append {M : MM} {xs ys : List D} {us vs : Array Value} (h : RepL M xs us) (k : RepL M ys vs) : RepL M (xs ++ ys) (us ++ vs) := by
  refine ⟨by simp [h.1, k.1], fun i d v a b => ?_⟩
  rw [List.getElem?_append] at a
  rw [Array.getElem?_append] at b
  rw [← h.1] at b
  split at a
  · rename_i hi
    rw [if_pos hi] at b
    exact h.2 i d v a b
  · rename_i hi
    rw [if_neg hi] at b
    exact k.2 _ d v a b
theorem repL_ops {M : MM} {ρ : Operand → D} {a : Act} (l : Array Operand) (h : ∀ x ∈ l, Rep M (ρ x) (a.eval x)) : RepL M (l.toList.map ρ) (l.map a.eval) := by
  refine ⟨by simp, fun i d v p q => ?_⟩
  rw [List.getElem?_map, Option.map_eq_some_iff] at p
  obtain ⟨x, hx, rfl⟩ := p
  rw [Array.getElem?_toList] at hx
  rw [Array.getElem?_map, hx] at q
  simp only [Option.map_some, Option.some.injEq] at q
  subst q
  exact h x (Array.mem_of_getElem? hx)

theorem Rep.demote {M : MM} {d : D} {v : Value} (h : Rep M d v) : Rep M d.demote v := by
  induction h with
  | undef v => exact .undef v
  | int k n => exact .int k n
  | bool b => exact .bool b
  | str s => exact .str s
  | nilp => exact .nilp
  | ptr q h => exact .ptr q h
  | eptr q vs hx hc hr ih => exact .eptr q vs hx hc hr
  | lst b off vs hl hcap ha hsz hc hr hst ho ih =>
    rename_i o _ _ _ _ _
    rw [D.demote]
    refine .lst b off vs hl hcap ha hsz hc hr hst ?_
    cases o <;> first | trivial | exact ho
  | nilf => exact .nilf
  | fn h1 h2 r1 r2 i1 i2 =>
    rw [D.demote, D.demoteL_eq, D.demoteL_eq]
    refine .fn (by simpa using h1) (by simpa using h2) ?_ ?_
    · intro i d v a b
      rw [List.getElem?_map, Option.map_eq_some_iff] at a
      obtain ⟨d0, h0, rfl⟩ := a
      exact i1 i d0 v h0 b
    · intro i d v a b
      rw [List.getElem?_map, Option.map_eq_some_iff] at a
      obtain ⟨d0, h0, rfl⟩ := a
      exact i2 i d0 v h0 b
  | agg h r ih =>
    rw [D.demote, D.demoteL_eq]
    refine .agg (by simpa using h) fun i d v a b => ?_
    rw [List.getElem?_map, Option.map_eq_some_iff] at a
    obtain ⟨d0, h0, rfl⟩ := a
    exact ih i d0 v h0 b
  | tup h r ih =>
    rw [D.demote, D.demoteL_eq]
    refine .tup (by simpa using h) fun i d v a b => ?_
    rw [List.getElem?_map, Option.map_eq_some_iff] at a
    obtain ⟨d0, h0, rfl⟩ := a
    exact ih i d0 v h0 b

theorem adoptL_out {id : Nat} : ∀ {ds l : List D} {sz : Nat}, adoptL id ds = some (l, sz) → ∃ (k sz' : Nat) (xs : List D), ds[k]? = some (D.lst (.fresh sz) sz' xs) ∧ l.length = ds.length ∧
    ∀ (i : Nat) (d' : D), l[i]? = some d' → (i = k ∧ d' = D.lst (.tok id 0) sz' xs) ∨ ∃ d0 : D, ds[i]? = some d0 ∧ (d' = d0 ∨ d' = d0.demote)
  | [], l, sz, h => by simp [adoptL] at h
  | d :: r, l, sz, h => by
    unfold adoptL at h
    split at h
    · cases h
    · rename_i sz1 sz2 xs r' heq
      simp only [List.cons.injEq] at heq
      obtain ⟨rfl, rfl⟩ := heq
      simp only [Option.some.injEq, Prod.mk.injEq] at h
      obtain ⟨rfl, rfl⟩ := h
      refine ⟨0, sz2, xs, rfl, by simp, fun i d' hi => ?_⟩
      cases i with
      | zero => simp at hi; exact .inl ⟨rfl, hi.symm⟩
      | succ i =>
        simp only [List.getElem?_cons_succ, List.getElem?_map, Option.map_eq_some_iff] at hi
        obtain ⟨d0, h0, rfl⟩ := hi
        exact .inr ⟨d0, by simpa using h0, .inr rfl⟩
    · rename_i d1 r1 _ heq
      simp only [List.cons.injEq] at heq
      obtain ⟨rfl, rfl⟩ := heq
      split at h
      · rename_i l' sz' hl
        simp only [Option.some.injEq, Prod.mk.injEq] at h
        obtain ⟨rfl, rfl⟩ := h
        obtain ⟨k, sz2, xs, h1, h2, h3⟩ := adoptL_out hl
        refine ⟨k + 1, sz2, xs, by simpa using h1, by simp [h2], fun i d' hi => ?_⟩
        cases i with
        | zero => simp at hi; exact .inr ⟨d, rfl, .inl hi.symm⟩
        | succ i =>
          rcases h3 i d' (by simpa using hi) with ⟨e1, e2⟩ | ⟨d0, e1, e2⟩
          · exact .inl ⟨by omega, e2⟩
          · exact .inr ⟨d0, by simpa using e1, e2⟩
      · cases h

theorem adopt_id (id id' : Nat) (d : D) : (adopt id d).2 = (adopt id' d).2 := by
  have hl : ∀ ds : List D, (adoptL id ds).map (·.2) = (adoptL id' ds).map (·.2) := by
    intro ds
    induction ds with
    | nil => rfl
    | cons d r ih =>
      unfold adoptL
      split
      · rfl
      · rfl
      · rename_i h; 
        cases h1 : adoptL id r with
        | none =>
          rw [h1] at ih
          cases h2 : adoptL id' r with
          | none => simp_all
          | some p => rw [h2] at ih; cases ih
        | some p =>
          rw [h1] at ih
          cases h2 : adoptL id' r with
          | none => rw [h2] at ih; cases ih
          | some q =>
            rw [h2] at ih
            have : p.2 = q.2 := by simpa using ih
            simp_all
  unfold adopt
  split
  · rfl
  · rename_i ds
    have := hl ds
    cases h1 : adoptL id ds with
    | none =>
      rw [h1] at this
      cases h2 : adoptL id' ds with
      | none => rfl
      | some p => rw [h2] at this; cases this
    | some p =>
      rw [h1] at this
      cases h2 : adoptL id' ds with
      | none => rw [h2] at this; cases this
      | some q =>
        rw [h2] at this
        have : p.2 = q.2 := by simpa using this
        simp [this]
  · rfl

/-- A new result is taken in. -/
theorem adopt_ok {w0 : Base} {w w' : World} {M M1 : MM} {own : Nat → Option Nat} {σ : Nat → Ob} (hw : WRel w0 M own σ w) (hw1 : WRel w0 M1 own σ w') (_hle : w.heap.size ≤ w'.heap.size) {id : Nat} (hid : ∀ v, M1.hist id v = none) {d : D} {v : Value} (hr : Rep M1 d v) (hf : FreshD w.heap.size w' M1.cell d v) :
    ∃ M' own', M1.Le M' ∧ M'.box = M1.box ∧ (∀ j, j ≠ id → M'.hist j = M1.hist j) ∧ WRel w0 M' own' (upd σ id (adopt id d).2) w' ∧ Rep M' (adopt id d).1 v := by
  have fam : ∀ {sz : Nat} {a : Option Addr} {len cap : Nat}, FreshRoom w.heap.size w' M1.cell sz a len cap → ∃ own', WRel w0 (M1.withHist id 0 (.slice a len cap)) own' (upd σ id (.fam 0 sz)) w' := by
    intro sz a len cap hroom
    refine hw1.setFam (fun v _ => hid v) sz ?_
    rcases hroom with q | ⟨b, vs, ty, fz, h1, h2, h3, h4, h5, h6⟩
    · exact .inl q
    · refine .inr ⟨b, vs, ty, fz, h1, Nat.le_trans hw.below.size h2, .inl ?_, h3, h4, h5, h6⟩
      cases e : own b with
      | none => rfl
      | some q => have := hw.owned _ _ e; omega
  have keep : ∀ {x : Value}, (∀ j, j ≠ id → (M1.withHist id 0 x).hist j = M1.hist j) := fun {x} j hj => by funext k; simp [MM.withHist, hj]
  have dead : ∀ {d' : D}, Rep M1 d' v → ∃ M' own', M1.Le M' ∧ M'.box = M1.box ∧ (∀ j, j ≠ id → M'.hist j = M1.hist j) ∧ WRel w0 M' own' (upd σ id .dead) w' ∧ Rep M' d' v :=
    fun h => ⟨M1, own, .refl _, rfl, fun _ _ => rfl, hw1.kill id, h⟩
  unfold adopt
  split
  · rename_i sz sz' xs
    obtain ⟨a, len, cap, rfl, rfl, hroom⟩ := hf.1 _ _ _ rfl
    obtain ⟨own', h1⟩ := fam hroom
    have le := MM.le_withHist (M := M1) (id := id) (ver := 0) (v := .slice a len cap) (hid 0)
    exact ⟨_, own', le, rfl, keep, h1, (hr.mono le).flag _ (by simp [MM.owns, MM.withHist])⟩
  · rename_i ds
    split
    · rename_i l sz hl
      obtain ⟨k, sz', xs, h1, h2, h3⟩ := adoptL_out hl
      cases hr with
      | tup hlen hrep =>
        rename_i vs
        obtain ⟨a, len, cap, hv, rfl, hroom⟩ := hf.2 _ _ rfl rfl k _ _ _ h1
        obtain ⟨own', h4⟩ := fam hroom
        have le := MM.le_withHist (M := M1) (id := id) (ver := 0) (v := .slice a len cap) (hid 0)
        refine ⟨_, own', le, rfl, keep, h4, .tup (by rw [h2]; exact hlen) fun i d' u hi hu => ?_⟩
        rcases h3 i d' hi with ⟨rfl, rfl⟩ | ⟨d0, e1, e2⟩
        · rw [hv] at hu
          obtain rfl := Option.some.inj hu
          exact ((hrep _ _ _ h1 hv).mono le).flag _ (by simp [MM.owns, MM.withHist])
        · have := (hrep i d0 u e1 hu).mono le
          rcases e2 with rfl | rfl
          · exact this
          · exact this.demote
    · exact dead hr
  · exact dead hr

theorem ok_ret {P : Program} {o : Oper} {ρ : Operand → D} {c : Call} {f : Operand} {g : FuncId} {first cap as : List D} {d : D} (ho : o.op = .call c) (hc : c.callee = .value f) (hf : ρ f = .fn (.func g) first cap) (hret : Ret P g as d)
    (has : ∀ (M : MM) (vs : Array Value), RepL M (first ++ (c.args.toList.map ρ ++ cap)) vs → RepL M.bare as vs) : OpOK P o ρ (.new (adopt 0 d).2 fun id => (adopt id d).1) := by
  intro w0 M own σ w a id hw hr hpre next Q hn
  have hargs : ∀ x ∈ c.args, Rep M (ρ x) (a.eval x) := fun x hx => hr x (by
    simp only [ho, Op.operands, Call.operands, hc]
    exact Array.mem_append.2 (.inr hx))
  have hfr := hr f (by
    simp only [ho, Op.operands, Call.operands, hc]
    exact Array.mem_append.2 (.inl (by simp)))
  rw [hf] at hfr
  generalize hfv : a.eval f = fval at hfr
  cases hfr with
  | fn h1 h2 r1 r2 =>
    rename_i fv cv
    have hall : RepL M (first ++ (c.args.toList.map ρ ++ cap)) ((fv ++ c.args.map a.eval) ++ cv) := by
      rw [Array.append_assoc]
      exact RepL.append ⟨h1, r1⟩ (RepL.append (repL_ops c.args hargs) ⟨h2, r2⟩)
    have hcall := hret.run w M.cell _ hw.cells (has M _ hall)
    refine wp_enter (exec_call ho hc hfv hret.ent w) (Calls.mono hcall fun e w' hh => ?_)
    obtain ⟨v, C', rfl, hext, hrep, hfresh⟩ := hh
    let M1 : MM := ⟨C', M.box, M.hist⟩
    have hx : Ext M w M1 w' := ⟨hext.below, hext.cell, hext.only, hext.cells⟩
    obtain ⟨hw1, le1⟩ := hw.ext hx rfl rfl
    obtain ⟨M', own', q1, q2, q3, q4, q5⟩ := adopt_ok (id := id) hw hw1 hext.below.size hpre.2 (hrep.mono (MM.bare_le M1)) hfresh
    refine ⟨v, rfl, hn v M' own' w' (le1.trans q1) ⟨fun j _ => by rw [q2], fun j hj => q3 j hj⟩ ?_ q5⟩
    show WRel w0 M' own' (upd σ id (adopt 0 d).2) w'
    rw [adopt_id 0 id d]
    exact q4

theorem ok_all {P : Program} {o : Oper} {ρ : Operand → D} {c : Call} {f : Operand} {g : FuncId} {first cap : List D} {d : D} {s s' : List Ob} (ho : o.op = .call c) (hc : c.callee = .value f) (hf : ρ f = .fn (.func g) first cap)
    (hrun : CallRun P g (first ++ (c.args.toList.map ρ ++ cap)) s d s') : OpAll P o ρ s s' d := by
  refine ⟨hrun.len, ?_⟩
  intro w0 M own w a hw hup hr next Q hn
  have hargs : ∀ x ∈ c.args, Rep M (ρ x) (a.eval x) := fun x hx => hr x (by
    simp only [ho, Op.operands, Call.operands, hc]
    exact Array.mem_append.2 (.inr hx))
  have hfr := hr f (by
    simp only [ho, Op.operands, Call.operands, hc]
    exact Array.mem_append.2 (.inl (by simp)))
  rw [hf] at hfr
  generalize hfv : a.eval f = fval at hfr
  cases hfr with
  | fn h1 h2 r1 r2 =>
    rename_i fv cv
    have hall : RepL M (first ++ (c.args.toList.map ρ ++ cap)) ((fv ++ c.args.map a.eval) ++ cv) := by
      rw [Array.append_assoc]
      exact RepL.append ⟨h1, r1⟩ (RepL.append (repL_ops c.args hargs) ⟨h2, r2⟩)
    refine wp_enter (exec_call ho hc hfv hrun.ent w) (Calls.mono (hrun.run w0 M own w _ hw hup hall) fun e w' hh => ?_)
    obtain ⟨v, M', own', rfl, q1, q2, q3, q4⟩ := hh
    exact ⟨v, rfl, hn v M' own' w' q3 q2 q1 q4⟩

end Go.Ev
