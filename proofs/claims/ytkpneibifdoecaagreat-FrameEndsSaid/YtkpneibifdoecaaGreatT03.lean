/- Contracts and plain laws that a statement's proof leans on (texts merged: EvN, EvQ). -/
import Derived.LoopN
import Derived.LoopNIn
import Derived.Test.YtkpneibifdoecaaGreatT02
set_option linter.unusedVariables false
set_option linter.unusedSimpArgs false
namespace Go.Ev
open Go Go.RowKit
def MM.frz (M : MM) (b n : Nat) (vs : Array Value) : MM := M.withCells b fun o => if o < n then vs[o]? else none
theorem MM.le_frz {M : MM} {b n : Nat} {vs : Array Value} (h : ∀ o, M.cell b o = none) : M.Le (M.frz b n vs) := by
 refine ⟨fun c o v hc => ?_, fun _ _ x => x, fun _ _ _ x => x, fun _ x => x⟩
 have : c ≠ b := fun e => by rw [e, h o] at hc; cases hc
 simp only [MM.frz, MM.withCells, this, if_false]
 exact hc
theorem WRel.freeze {w0 : Base} {w : World} {M : MM} {own : Nat → Option Nat} {σ : Nat → Ob} (h : WRel w0 M own σ w) {id b n : Nat} {cs : List D} {vs : Array Value} {ty : TypeId} (k : BoxOK w0 M own id cs w b vs ty) :
  WRel w0 (M.frz b n vs) own (upd σ id .dead) w := by
 have le : M.Le (M.frz b n vs) := MM.le_frz k.none
 have hne : ∀ {i c : Nat}, own c = some i → i ≠ id → c ≠ b := fun hi e ec => by rw [ec, k.own] at hi; exact e (Option.some.inj hi).symm
 have hnone : ∀ {c o : Nat}, c ≠ b → M.cell c o = none → (M.frz b n vs).cell c o = none := fun hc hn => by simp only [MM.frz, MM.withCells, hc, if_false]; exact hn
 refine ⟨h.below, ?_, ?_, h.owned, ?_, ?_, ?_, ?_, h.mrk⟩
 ·intro c o v hc
  by_cases e : c = b
  ·subst e
   simp only [MM.frz, MM.withCells, if_true] at hc
   split at hc
   ·simp [World.cell?, k.blk, hc]
   ·cases hc
  ·simp only [MM.frz, MM.withCells, e, if_false] at hc
   exact h.cells c o v hc
 ·intro c o v hc hlt
  have e : c ≠ b := fun e => by have := k.base; omega
  simp only [MM.frz, MM.withCells, e, if_false] at hc
  exact h.old c o v hc hlt
 ·intro i cs2 hi
  by_cases e : i = id
  ·rw [e, upd_same] at hi; cases hi
  ·rw [upd_other e] at hi
   obtain ⟨c, vs2, ty2, k2⟩ := h.box i cs2 hi
   exact ⟨c, vs2, ty2, k2.box, k2.base, k2.own, fun o => hnone (hne k2.own e) (k2.none o), k2.blk, k2.len, fun j d v a b => (k2.rep j d v a b).mono le, k2.room⟩
 ·intro i ver sz hi
  by_cases e : i = id
  ·rw [e, upd_same] at hi; cases hi
  ·rw [upd_other e] at hi
   obtain ⟨a, len, cap, k2⟩ := h.fam i ver sz hi
   refine ⟨a, len, cap, k2.hist, k2.last, ?_⟩
   rcases k2.room with r | ⟨c, vs2, ty2, fz, ha, r⟩
   ·exact .inl r
   ·exact .inr ⟨c, vs2, ty2, fz, ha, r.base, r.own, r.blk, r.fz, r.cap, fun o ho => hnone (hne r.own e) (r.none o ho)⟩
 ·intro i k2 es hi
  by_cases e : i = id
  ·rw [e, upd_same] at hi; cases hi
  ·rw [upd_other e] at hi
   obtain ⟨c, ents, clock, q⟩ := h.mp i k2 es hi
   exact ⟨c, ents, clock, q.box, q.base, q.own, fun o => hnone (hne q.own e) (q.none o), q.blk, q.fits⟩
 ·intro i k2 t ps ag bd hi
  by_cases e : i = id
  ·rw [e, upd_same] at hi; cases hi
  ·rw [upd_other e] at hi
   obtain ⟨l, r, q⟩ := h.lp i k2 t ps ag bd hi
   exact ⟨l, r, q.keep le q.own q.blk⟩
def rows (sz : Nat) : Nat → List D → List D
  | 0, _ => []
  | n + 1, cs => .agg (cs.take sz) :: rows sz n (cs.drop sz)
end Go.Ev
namespace Go.Ev
open Go Go.RowKit
section
variable {ρ' : Type}
mutual
theorem force_eq : ∀ (d : D) (K : D → Option ρ'), force d K = K d
  | .undef, K => by simp [force]
  | .int _ _, K => by simp [force]
  | .bool _, K => by simp [force]
  | .str _, K => by simp [force]
  | .nilp, K => by simp [force]
  | .ptr _ _ _, K => by simp [force]
  | .eptr _ _ _, K => by simp [force]
  | .mapp _, K => by simp [force]
  | .yld _, K => by simp [force]
  | .slc _ _ _, K => by simp [force]
  | .lst _ _ _, K => by simp [force]
  | .nilf, K => by simp [force]
  | .fn f a b, K => by rw [force, forceL_eq, forceL_eq]
  | .agg cs, K => by rw [force, forceL_eq]
  | .tup cs, K => by rw [force, forceL_eq]
theorem forceL_eq : ∀ (l : List D) (K : List D → Option ρ'), forceL l K = K l
  | [], K => by simp [forceL]
  | d :: r, K => by rw [forceL, force_eq, forceL_eq]
end
theorem setc_eq : ∀ (l : List D) (i : Nat) (d : D) (K : List D → Option ρ'), setc l i d K = K (l.set i d)
 | [], i, d, K => by simp [setc]
 | a :: r, 0, d, K => by simp [setc]
 | a :: r, i + 1, d, K => by rw [setc, setc_eq]; rfl
theorem putc_eq (t : List D) (dst : Option Nat) (d : D) (K : List D → Option ρ') : putc t dst d K = K (put t dst d) := by
 cases dst with
 | none => rfl
 | some i => simp only [putc, force_eq, setc_eq, put]
theorem setOb_eq : ∀ (l : List Ob) (i : Nat) (d : Ob) (K : List Ob → Option ρ'), setOb l i d K = K (l.set i d)
 | [], i, d, K => by simp [setOb]
 | a :: r, 0, d, K => by simp [setOb]
 | a :: r, i + 1, d, K => by rw [setOb, setOb_eq]; rfl
theorem forceOb_eq (o : Ob) (K : Ob → Option ρ') : forceOb o K = K o := by cases o <;> simp [forceOb, forceL_eq]
theorem forceQ_out {ρ' : Type} {P : Program} {r : ρ'} {z : Z P} {o : Ob} {k : Z P → Ob → Option ρ'} (h : forceQ z o k = some r) : ∃ z', k z' o = some r ∧ (z'.c → z.c) := by
 unfold forceQ at h
 split at h
 ·exact ⟨_, h, id⟩
 ·rw [forceOb_eq] at h
  exact ⟨_, h, id⟩
theorem pushOb_eq : ∀ (l : List Ob) (o : Ob) (K : List Ob → Option ρ'), pushOb l o K = K (l ++ [o])
 | [], o, K => by simp [pushOb]
 | a :: r, o, K => by rw [pushOb, pushOb_eq]; rfl
end
structure Tr where
  o : Oper
  t : List D
  s : List Ob
  e : Option Eff
  k : List Nat
def Tr.val (x : Tr) : D := match x.e with | none => .tup [] | some e => e.val x.s.length
def Tr.nextT (x : Tr) : List D := put x.t x.o.dst x.val
def Tr.nextS (x : Tr) : List Ob := match x.e with
  | some (.upd i _ o' _) => x.s.set i o'
  | some (.new o' _) => x.s ++ [o']
  | some (.all s' _) => s'
  | _ => x.s
def Tr.fp (x : Tr) : FP := match x.e with
  | some (.read i _ _) => .rd i
  | some (.upd i _ _ _) => .wr i
  | some (.new _ _) => .nw x.s.length
  | some (.all _ _) => .all x.k
  | _ => .non
def Tr.kok (x : Tr) : Prop := match x.e with
  | some (.all s' _) => ∀ i ∈ x.k, i < x.s.length ∧ x.s.getD i .dead = s'.getD i .dead
  | _ => True
def Tr.ok0 (P : Program) (ops : Array Oper) (x : Tr) : Prop :=
  match x.o.guard with
  | none => ∃ e, x.e = some e ∧ EffOK P x.o (opnd x.t) x.s e
  | some (j, want) => (∃ b, guardVal ops x.t j = .bool b ∧ ((b = want ∧ ∃ e, x.e = some e ∧ EffOK P x.o (opnd x.t) x.s e) ∨ (b ≠ want ∧ x.e = none))) ∨ (guardVal ops x.t j = .tup [] ∧ x.e = none)
def Tr.ok (P : Program) (ops : Array Oper) (x : Tr) : Prop := x.ok0 P ops ∧ x.kok
theorem keepc_out {ρ' : Type} {P : Program} {r : ρ'} {z : Z P} {s s' : List Ob} {k : Z P → List Nat → Option ρ'} (h : keepc z s s' k = some r) : ∃ z' l, k z' l = some r ∧ (z'.c → z.c ∧ ∀ i ∈ l, i < s.length ∧ s.getD i .dead = s'.getD i .dead) := by
 unfold keepc at h
 split at h
 ·rename_i l rest hz
  clear hz
  have hh := chk_out h
  clear h
  obtain ⟨hl, h⟩ := hh
  refine ⟨_, _, h, ?_⟩
  show keepP s s' l z.c → _
  clear h
  generalize z.c = c
  induction l generalizing c with
  | nil => intro c; exact ⟨c, fun i hi => by simp [keepIds] at hi⟩
  | cons p r ih =>
   obtain ⟨i, o⟩ := p
   intro hc
   simp only [keepLt] at hl
   split at hl
   ·rename_i hlt
    obtain ⟨⟨⟨h1, h2⟩, h3⟩, h4⟩ := ih hl _ hc
    refine ⟨h3, fun j hj => ?_⟩
    rw [keepIds, List.mem_cons] at hj
    rcases hj with rfl | hj
    ·exact ⟨Nat.lt_of_succ_le (by simpa [Nat.blt, Nat.ble_eq] using hlt), h1.symm.trans h2⟩
    ·exact h4 j hj
   ·cases hl
 ·exact ⟨z, [], h, fun c => ⟨c, fun i hi => by simp at hi⟩⟩
def Trace (P : Program) (ops : Array Oper) : List Oper → List D → List Ob → List Tr → List D → List Ob → Prop
  | [], t, s, tr, t', s' => tr = [] ∧ t' = t ∧ s' = s
  | o :: rest, t, s, tr, t', s' => ∃ x xs, tr = x :: xs ∧ x.o = o ∧ x.t = t ∧ x.s = s ∧ x.ok P ops ∧ Trace P ops rest x.nextT x.nextS xs t' s'
theorem opsc_trace {ρ' : Type} {P : Program} {r : ρ'} {inl : Inl P ρ'} (hinl : InlSound P inl) {ops : Array Oper} : ∀ {rest : List Oper} {t : List D} {s : List Ob} {fps : List FP} {z : Z P} {K : List D → List Ob → List FP → Z P → Option ρ'}, opsc P inl ops rest t s fps z K = some r →
  ∃ tr t' s' z', K t' s' ((tr.map Tr.fp).reverse ++ fps) z' = some r ∧ (z'.c → z.c ∧ Trace P ops rest t s tr t' s')
 | [], t, s, fps, z, K, h => ⟨[], t, s, z, h, fun c => ⟨c, rfl, rfl, rfl⟩⟩
 | o :: rest, t, s, fps, z, K, h => by
  have run : ∀ {z : Z P} {want : Prop}, (opc P inl o t s z fun z e => match e with
    | .pure d => putc t o.dst d fun t' => opsc P inl ops rest t' s (.non :: fps) z K
    | .read id _ d => putc t o.dst d fun t' => opsc P inl ops rest t' s (.rd id :: fps) z K
    | .upd id _ o' d => putc t o.dst d fun t' => forceQ z o' fun z o2 => setOb s id o2 fun s' => opsc P inl ops rest t' s' (.wr id :: fps) z K
    | .new o' mk => putc t o.dst (mk s.length) fun t' => forceQ z o' fun z o2 => pushOb s o2 fun s' => opsc P inl ops rest t' s' (.nw s.length :: fps) z K
    | .all s' d => putc t o.dst d fun t' => keepc z s s' fun z l => opsc P inl ops rest t' s' (.all l :: fps) z K) = some r →
    ∃ e l tr t' s' z', K t' s' ((tr.map Tr.fp).reverse ++ ((⟨o, t, s, some e, l⟩ : Tr).fp :: fps)) z' = some r ∧ (z'.c → z.c ∧ EffOK P o (opnd t) s e ∧ (⟨o, t, s, some e, l⟩ : Tr).kok ∧ Trace P ops rest (⟨o, t, s, some e, l⟩ : Tr).nextT (⟨o, t, s, some e, l⟩ : Tr).nextS tr t' s') := by
   intro z want h
   obtain ⟨e, z1, h1, h2⟩ := opc_out hinl h
   cases e with
   | pure d =>
    simp only [putc_eq] at h1
    obtain ⟨tr, t', s', z', k1, k2⟩ := opsc_trace hinl h1
    exact ⟨.pure d, [], tr, t', s', z', k1, fun c => ⟨(h2 (k2 c).1).1, (h2 (k2 c).1).2, trivial, (k2 c).2⟩⟩
   | read i ob d =>
    simp only [putc_eq] at h1
    obtain ⟨tr, t', s', z', k1, k2⟩ := opsc_trace hinl h1
    exact ⟨.read i ob d, [], tr, t', s', z', k1, fun c => ⟨(h2 (k2 c).1).1, (h2 (k2 c).1).2, trivial, (k2 c).2⟩⟩
   | upd i ob ob' d =>
    simp only [putc_eq] at h1
    obtain ⟨z2, h3, h4⟩ := forceQ_out h1
    rw [setOb_eq] at h3
    obtain ⟨tr, t', s', z', k1, k2⟩ := opsc_trace hinl h3
    exact ⟨.upd i ob ob' d, [], tr, t', s', z', k1, fun c => ⟨(h2 (h4 (k2 c).1)).1, (h2 (h4 (k2 c).1)).2, trivial, (k2 c).2⟩⟩
   | new ob mk =>
    simp only [putc_eq] at h1
    obtain ⟨z2, h3, h4⟩ := forceQ_out h1
    rw [pushOb_eq] at h3
    obtain ⟨tr, t', s', z', k1, k2⟩ := opsc_trace hinl h3
    exact ⟨.new ob mk, [], tr, t', s', z', k1, fun c => ⟨(h2 (h4 (k2 c).1)).1, (h2 (h4 (k2 c).1)).2, trivial, (k2 c).2⟩⟩
   | all s2 d =>
    simp only [putc_eq] at h1
    obtain ⟨z2, l, h3, h4⟩ := keepc_out h1
    obtain ⟨tr, t', s', z', k1, k2⟩ := opsc_trace hinl h3
    exact ⟨.all s2 d, l, tr, t', s', z', k1, fun c => ⟨(h2 (h4 (k2 c).1).1).1, (h2 (h4 (k2 c).1).1).2, (h4 (k2 c).1).2, (k2 c).2⟩⟩
  unfold opsc at h
  simp only at h
  split at h
  ·rename_i hg
   obtain ⟨e, l, tr, t', s', z', k1, k2⟩ := run (want := True) h
   refine ⟨⟨o, t, s, some e, l⟩ :: tr, t', s', z', by simpa using k1, fun c => ⟨(k2 c).1, _, _, rfl, rfl, rfl, rfl, ⟨?_, (k2 c).2.2.1⟩, (k2 c).2.2.2⟩⟩
   simp only [Tr.ok0, hg]
   exact ⟨e, rfl, (k2 c).2.1⟩
  ·rename_i j want hg
   split at h
   ·rename_i b hb
    obtain ⟨z1, ⟨h1, h2⟩ | ⟨h1, h2⟩⟩ := branch_out h
    ·obtain ⟨e, l, tr, t', s', z', k1, k2⟩ := run (want := True) h1
     refine ⟨⟨o, t, s, some e, l⟩ :: tr, t', s', z', by simpa using k1, fun c => ⟨(h2 (k2 c).1).1, _, _, rfl, rfl, rfl, rfl, ⟨?_, (k2 c).2.2.1⟩, (k2 c).2.2.2⟩⟩
     simp only [Tr.ok0, hg]
     exact .inl ⟨b, hb, .inl ⟨by simpa using (h2 (k2 c).1).2, e, rfl, (k2 c).2.1⟩⟩
    ·rw [putc_eq] at h1
     obtain ⟨tr, t', s', z', k1, k2⟩ := opsc_trace hinl h1
     refine ⟨⟨o, t, s, none, []⟩ :: tr, t', s', z', by simpa [Tr.fp] using k1, fun c => ⟨(h2 (k2 c).1).1, _, _, rfl, rfl, rfl, rfl, ⟨?_, trivial⟩, (k2 c).2⟩⟩
     simp only [Tr.ok0, hg]
     exact .inl ⟨b, hb, .inr ⟨by simpa using (h2 (k2 c).1).2, trivial⟩⟩
   ·rename_i hb
    rw [putc_eq] at h
    obtain ⟨tr, t', s', z', k1, k2⟩ := opsc_trace hinl h
    refine ⟨⟨o, t, s, none, []⟩ :: tr, t', s', z', by simpa [Tr.fp] using k1, fun c => ⟨(k2 c).1, _, _, rfl, rfl, rfl, rfl, ⟨?_, trivial⟩, (k2 c).2⟩⟩
    simp only [Tr.ok0, hg]
    exact .inr ⟨hb, trivial⟩
   ·cases h
theorem repL_put {M M' : MM} (le : M.Le M') {t : List D} {a : Act} (h : RepL M t a.tmps) {dst : Option Nat} {d : D} {v : Value} (hr : Rep M' d v) : RepL M' (put t dst d) (a.put dst v).tmps := by
 cases dst with
 | none => exact h.mono le
 | some i =>
  refine ⟨by simp [put, Act.put, h.1], fun k d' v' p q => ?_⟩
  simp only [put, Act.put] at p q
  by_cases e : i = k
  ·subst e
   have hlt : i < t.length := by
    rcases Nat.lt_or_ge i t.length with x | x
    ·exact x
    ·rw [List.getElem?_eq_none (by simpa using x)] at p; cases p
   have hlt2 : i < a.tmps.size := by rw [← h.1]; exact hlt
   simp [hlt] at p
   simp [hlt2] at q
   subst p q
   exact hr
  ·rw [List.getElem?_set_ne e] at p
   rw [Array.getElem?_setIfInBounds_ne e] at q
   exact (h.2 k d' v' p q).mono le
theorem put_defers (a : Act) (dst : Option Nat) (v : Value) : (a.put dst v).defers = a.defers := by cases dst <;> rfl
theorem guard_val {M : MM} {ops : Array Oper} {t : List D} {a : Act} {j : Nat} {b : Bool} (h : ∀ i, (ops[j]?).bind (·.dst) = some i → Rep M (t.getD i .undef) (a.tmps.getD i undef)) (hg : guardVal ops t j = .bool b) : yielded ops a.tmps j = some b := by
 unfold guardVal at hg
 split at hg
 ·rename_i o ho
  split at hg
  ·rename_i i hi
   have h1 := h i (by simp [ho, hi])
   rw [hg] at h1
   unfold yielded
   simp only [ho, Option.bind_some, hi]
   generalize hv : a.tmps.getD i undef = v at h1
   cases h1
   rw [Array.getD_eq_getD_getElem?] at hv
   cases e : a.tmps[i]? with
   | none => rw [e] at hv; cases hv
   | some u => rw [e] at hv; simp only [Option.getD_some] at hv; subst hv; rfl
  ·cases hg
 ·cases hg
theorem rep_skip {M : MM} : Rep M (.tup []) undef := .tup rfl (fun i d v h => by simp at h)
theorem guard_undef {M : MM} {ops : Array Oper} {t : List D} {a : Act} {j : Nat} (h : ∀ i, (ops[j]?).bind (·.dst) = some i → Rep M (t.getD i .undef) (a.tmps.getD i undef)) (hg : guardVal ops t j = .tup []) : yielded ops a.tmps j = none := by
 unfold guardVal at hg
 split at hg
 ·rename_i o ho
  split at hg
  ·rename_i i hi
   have h1 := h i (by simp [ho, hi])
   rw [hg] at h1
   unfold yielded
   simp only [ho, Option.bind_some, hi]
   generalize hv : a.tmps.getD i undef = v at h1
   cases h1
   rw [Array.getD_eq_getD_getElem?] at hv
   cases e : a.tmps[i]? with
   | none => rfl
   | some u => rw [e] at hv; simp only [Option.getD_some] at hv; subst hv; rfl
  ·cases hg
 ·cases hg
theorem repL_getD {M : MM} {t : List D} {vs : Array Value} (h : RepL M t vs) (i : Nat) : Rep M (t.getD i .undef) (vs.getD i undef) := by
 cases e : t[i]? with
 | none => rw [List.getD_eq_getElem?_getD, e]; exact .undef _
 | some d =>
  obtain ⟨v, hv, hr⟩ := h.get e
  rw [List.getD_eq_getElem?_getD, e, Array.getD_eq_getD_getElem?, hv]
  exact hr
theorem stAt_set {s : List Ob} {i : Nat} (h : i < s.length) (o : Ob) : stAt (s.set i o) = upd (stAt s) i o := by
 funext k
 unfold stAt upd
 simp only [List.getD_eq_getElem?_getD]
 by_cases e : k = i
 ·subst e; rw [List.getElem?_set_self h]; simp
 ·rw [List.getElem?_set_ne (Ne.symm e), if_neg e]
theorem stAt_push (s : List Ob) (o : Ob) : stAt (s ++ [o]) = upd (stAt s) s.length o := by
 funext k
 unfold stAt upd
 simp only [List.getD_eq_getElem?_getD, List.getElem?_append]
 by_cases e : k = s.length
 ·subst e; simp
 ·rw [if_neg e]
  split
  ·rfl
  ·rename_i h
   rw [List.getElem?_eq_none (by simp; omega), List.getElem?_eq_none (by omega)]
theorem MM.upto_adds {M M' : MM} {n m : Nat} (h : M.upto n) (hb : ∀ j, m ≤ j → M'.box j = M.box j) (hh : ∀ j, m ≤ j → M'.hist j = M.hist j) (hm : n ≤ m) : M'.upto m :=
 ⟨fun id hi => by rw [hb id hi]; exact h.1 id (by omega), fun id v hi => by rw [hh id hi]; exact h.2 id v (by omega)⟩
theorem step_text {P : Program} {ops : Array Oper} {x : Tr} (hx : x.ok P ops) {w0 : Base} {M : MM} {own : Nat → Option Nat} {w : World} {a : Act} (hw : WRel w0 M own (stAt x.s) w) (hu : M.upto x.s.length) (ht : RepL M x.t a.tmps)
  {next : Act → World → Prop} {Q : Exit → Act → World → Prop}
  (hn : ∀ M' own' w' a', M.Le M' → M'.upto x.nextS.length → WRel w0 M' own' (stAt x.nextS) w' → RepL M' x.nextT a'.tmps → a'.defers = a.defers → next a' w') :
  (if Region.wanted x.o (yielded ops a.tmps) then wpO P x.o a w next Q else next (a.put x.o.dst undef) w) ∧ x.s.length ≤ x.nextS.length := by
 obtain ⟨o, t, s, e, l⟩ := x
 replace hx := hx.1
 replace hu : M.upto s.length := hu
 replace hw : WRel w0 M own (stAt s) w := hw
 replace ht : RepL M t a.tmps := ht
 have eff : ∀ {e0 : Eff}, e = some e0 → EffOK P o (opnd t) s e0 → wpO P o a w next Q ∧ s.length ≤ (⟨o, t, s, e, l⟩ : Tr).nextS.length := by
  intro e0 he h0
  subst he
  have hop : ∀ y ∈ o.op.operands, Rep M (opnd t y) (a.eval y) := fun y _ => rep_opnd ht y
  have hid : M.box s.length = none ∧ ∀ v, M.hist s.length v = none := ⟨hu.1 _ (Nat.le_refl _), fun v => hu.2 _ v (Nat.le_refl _)⟩
  cases e0 with
  | pure d =>
   exact ⟨h0 w0 M own _ w a s.length hw hop trivial next Q fun v M' own' w' le ad hw' hr => hn M' own' w' _ le (MM.upto_adds hu (m := s.length) (fun j _ => by rw [ad.1]) (fun j _ => by rw [ad.2]) (Nat.le_refl _)) hw' (repL_put le ht hr) (put_defers _ _ _), Nat.le_refl _⟩
  | read i ob d =>
   exact ⟨h0.2 w0 M own _ w a s.length hw hop h0.1.1 next Q fun v M' own' w' le ad hw' hr => hn M' own' w' _ le (MM.upto_adds hu (m := s.length) (fun j _ => by rw [ad.1]) (fun j _ => by rw [ad.2]) (Nat.le_refl _)) hw' (repL_put le ht hr) (put_defers _ _ _), Nat.le_refl _⟩
  | upd i ob ob' d =>
   refine ⟨h0.2 w0 M own _ w a s.length hw hop h0.1.1 next Q fun v M' own' w' le ad hw' hr => hn M' own' w' _ le (by
    simp only [Tr.nextS, List.length_set]
    exact MM.upto_adds hu (fun j _ => by rw [ad.1]) (fun j hj => ad.2 j (by have := h0.1.2; omega)) (Nat.le_refl _)) (by simp only [Tr.nextS]; rw [stAt_set h0.1.2]; exact hw') (repL_put le ht hr) (put_defers _ _ _), by simp [Tr.nextS]⟩
  | new ob mk =>
   refine ⟨h0 w0 M own _ w a s.length hw hop hid next Q fun v M' own' w' le ad hw' hr => hn M' own' w' _ le (by
    simp only [Tr.nextS, List.length_append, List.length_singleton]
    exact MM.upto_adds hu (fun j hj => ad.1 j (by omega)) (fun j hj => ad.2 j (by omega)) (by omega)) (by simp only [Tr.nextS]; rw [stAt_push]; exact hw') (repL_put le ht hr) (put_defers _ _ _), by simp [Tr.nextS]⟩
  | all s' d =>
   exact ⟨h0.2 w0 M own w a hw hu hop next Q fun v M' own' w' le up hw' hr => hn M' own' w' _ le up hw' (repL_put le ht hr) (put_defers _ _ _), h0.1⟩
 unfold Tr.ok0 at hx
 simp only at hx
 split at hx
 ·rename_i hg
  obtain ⟨e0, he, h0⟩ := hx
  obtain ⟨k1, k2⟩ := eff he h0
  refine ⟨?_, k2⟩
  have : Region.wanted o (yielded ops a.tmps) = true := by simp [Region.wanted, hg]
  rw [if_pos this]
  exact k1
 ·rename_i j want hg
  rcases hx with ⟨b, hb, hcase⟩ | ⟨hb, rfl⟩
  ·have hy := guard_val (M := M) (a := a) (fun i _ => repL_getD ht i) hb
   rcases hcase with ⟨rfl, e0, he, h0⟩ | ⟨hne, rfl⟩
   ·obtain ⟨k1, k2⟩ := eff he h0
    refine ⟨?_, k2⟩
    have : Region.wanted o (yielded ops a.tmps) = true := by simp [Region.wanted, hg, hy]
    rw [if_pos this]
    exact k1
   ·have : Region.wanted o (yielded ops a.tmps) = false := by simp [Region.wanted, hg, hy, hne]
    rw [this]
    exact ⟨hn M own w _ (.refl M) hu hw (repL_put (.refl M) ht rep_skip) (put_defers _ _ _), Nat.le_refl _⟩
  ·have hy := guard_undef (M := M) (a := a) (fun i _ => repL_getD ht i) hb
   have : Region.wanted o (yielded ops a.tmps) = false := by simp [Region.wanted, hg, hy]
   rw [this]
   exact ⟨hn M own w _ (.refl M) hu hw (repL_put (.refl M) ht rep_skip) (put_defers _ _ _), Nat.le_refl _⟩
theorem region_text {P : Program} {ops : Array Oper} {w0 : Base} {Q : Exit → Act → World → Prop} {df : List Deferred} (rr : Option Nat) : ∀ {rest : List Oper} {t : List D} {s : List Ob} {tr : List Tr} {t' : List D} {s' : List Ob}, Trace P ops rest t s tr t' s' →
  ∀ {M : MM} {own : Nat → Option Nat} {w : World} {a : Act} (k : Nat), ops.toList.drop k = rest → WRel w0 M own (stAt s) w → M.upto s.length → RepL M t a.tmps → a.defers = df →
  (∀ M' own' w' a', M.Le M' → M'.upto s'.length → WRel w0 M' own' (stAt s') w' → RepL M' t' a'.tmps → a'.defers = df → Q .normal a' w') → wpOpsIn (FW rr) 0 P ops Q (List.range' k rest.length) a w
 | [], t, s, tr, t', s', h, M, own, w, a, k, hk, hw, hu, ht, hd, hq => by
  obtain ⟨rfl, rfl, rfl⟩ := h
  exact hq M own w a (.refl M) hu hw ht hd
 | o :: rest, t, s, tr, t', s', h, M, own, w, a, k, hk, hw, hu, ht, hd, hq => by
  obtain ⟨x, xs, rfl, rfl, rfl, rfl, hok, h⟩ := h
  have hat : ops[k]? = some x.o := by
   rw [← Array.getElem?_toList]
   have := congrArg (fun l => l[0]?) hk
   simpa using this
  have hdrop : ops.toList.drop (k + 1) = rest := by
   have := congrArg List.tail hk
   simpa using this
  rw [List.length_cons, List.range'_succ]
  simp only [wpOpsIn, hat]
  have hs := (step_text (next := wpOpsIn (FW rr) 0 P ops Q (List.range' (k + 1) rest.length)) (Q := Q) hok hw hu ht fun M' own' w' a' le up hw' ht' hd' => region_text rr h (k + 1) hdrop hw' up ht' (by rw [hd']; exact hd) fun M2 own2 w2 a2 le2 up2 hw2 ht2 hd2 => hq M2 own2 w2 a2 (le.trans le2) up2 hw2 ht2 hd2).1
  split
  ·rename_i hwt
   rw [if_pos hwt] at hs
   exact hs rr
  ·rename_i hwt
   rw [if_neg hwt] at hs
   exact ⟨fun _ _ => trivial, hs⟩
theorem trace_at {P : Program} {ops : Array Oper} : ∀ {rest : List Oper} {t : List D} {s : List Ob} {tr : List Tr} {t' : List D} {s' : List Ob}, Trace P ops rest t s tr t' s' → ∀ (i : Nat) (x : Tr), tr[i]? = some x → rest[i]? = some x.o ∧ x.ok P ops
 | [], _, _, _, _, _, h, i, x, hx => by obtain ⟨rfl, _⟩ := h; simp at hx
 | o :: rest, _, _, _, _, _, h, i, x, hx => by
  obtain ⟨y, xs, rfl, ho, _, _, hok, h⟩ := h
  cases i with
  | zero => simp at hx; subst hx; exact ⟨by simp [ho], hok⟩
  | succ i => exact trace_at h i x (by simpa using hx)
theorem nextS_len {P : Program} {ops : Array Oper} {x : Tr} (h : x.ok P ops) : x.s.length ≤ x.nextS.length := by
 obtain ⟨o, t, s, e, l⟩ := x
 replace h := h.1
 have eff : ∀ {e0 : Eff}, e = some e0 → EffOK P o (opnd t) s e0 → s.length ≤ (⟨o, t, s, e, l⟩ : Tr).nextS.length := by
  intro e0 he h0
  subst he
  cases e0 with
  | pure d => exact Nat.le_refl _
  | read i ob d => exact Nat.le_refl _
  | upd i ob ob' d => simp [Tr.nextS]
  | new ob mk => simp [Tr.nextS]
  | all s' d => exact h0.1
 unfold Tr.ok0 at h
 simp only at h
 split at h
 ·obtain ⟨e0, he, h0⟩ := h; exact eff he h0
 ·obtain ⟨b, _, ⟨_, e0, he, h0⟩ | ⟨_, rfl⟩⟩ | ⟨_, rfl⟩ := h
  ·exact eff he h0
  ·exact Nat.le_refl _
  ·exact Nat.le_refl _
theorem trace_slen {P : Program} {ops : Array Oper} : ∀ {rest : List Oper} {t : List D} {s : List Ob} {tr : List Tr} {t' : List D} {s' : List Ob}, Trace P ops rest t s tr t' s' → s.length ≤ s'.length
 | [], _, _, _, _, _, h => by obtain ⟨_, _, rfl⟩ := h; exact Nat.le_refl _
 | o :: rest, _, _, _, _, _, h => by
  obtain ⟨x, xs, rfl, _, _, rfl, hok, h⟩ := h
  exact Nat.le_trans (nextS_len hok) (trace_slen h)
end Go.Ev
namespace Go.Ev
open Go Go.RowKit
theorem foldl_bits (acc : List Nat) : ∀ (es : List Edge) (m k : Nat), (es.foldl (fun m e => match Region.binds .any e with | true => m ||| (1 <<< e.on) ||| acc.getD e.on 0 | false => m) m).testBit k = true →
  m.testBit k = true ∨ ∃ e ∈ es, Region.binds .any e = true ∧ (k = e.on ∨ (acc.getD e.on 0).testBit k = true)
 | [], m, k, h => .inl h
 | e :: es, m, k, h => by
  rw [List.foldl_cons] at h
  rcases foldl_bits acc es _ k h with h | ⟨e', he, h1, h2⟩
  ·split at h
   ·rename_i hb
    rw [Nat.testBit_or, Nat.testBit_or, Bool.or_eq_true, Bool.or_eq_true] at h
    rcases h with (h | h) | h
    ·exact .inl h
    ·refine .inr ⟨e, by simp, hb, .inl ?_⟩
     rw [Nat.one_shiftLeft, Nat.testBit_two_pow] at h
     exact (of_decide_eq_true h).symm
    ·exact .inr ⟨e, by simp, hb, .inr h⟩
   ·exact .inl h
  ·exact .inr ⟨e', by simp [he], h1, h2⟩
def bitsOf (o : Oper) (acc : List Nat) : Nat := o.after.toList.foldl (fun m e => match Region.binds .any e with | true => m ||| (1 <<< e.on) ||| acc.getD e.on 0 | false => m) 0
theorem aheads_spec : ∀ (rest : List Oper) (acc : List Nat), (aheads rest acc).length = acc.length + rest.length ∧ (aheads rest acc).take acc.length = acc ∧
  ∀ (j : Nat) (o : Oper), rest[j]? = some o → (aheads rest acc)[acc.length + j]? = some (bitsOf o ((aheads rest acc).take (acc.length + j)))
 | [], acc => ⟨by simp [aheads], by simp [aheads], fun j o h => by simp at h⟩
 | o :: rest, acc => by
  have ih := aheads_spec rest (acc ++ [bitsOf o acc])
  have hun : aheads (o :: rest) acc = aheads rest (acc ++ [bitsOf o acc]) := rfl
  rw [hun]
  obtain ⟨h1, h2, h3⟩ := ih
  have h2' : (aheads rest (acc ++ [bitsOf o acc])).take acc.length = acc := by
   have := congrArg (fun l => l.take acc.length) h2
   simp only [List.length_append, List.length_singleton, List.take_take] at this
   rw [show min acc.length (acc.length + 1) = acc.length by omega] at this
   rw [this]
   simp
  refine ⟨by rw [h1]; simp; omega, h2', fun j q hq => ?_⟩
  cases j with
  | zero =>
   simp at hq
   subst hq
   rw [Nat.add_zero, h2']
   have := congrArg (fun l => l[acc.length]?) h2
   simp only [List.length_append, List.length_singleton, List.getElem?_take] at this
   rw [if_pos (by omega)] at this
   rw [this]
   simp
  | succ j =>
   have := h3 j q (by simpa using hq)
   simp only [List.length_append, List.length_singleton] at this
   rw [show acc.length + 1 + j = acc.length + (j + 1) by omega] at this
   exact this
def preds (ops : Array Oper) (L : Nat → Bool) (j : Nat) : Prop := ∀ o, ops[j]? = some o → ∀ e ∈ o.after.toList, Region.binds .any e = true → L e.on = true
def closed (ops : Array Oper) (L : Nat → Bool) : Prop := ∀ i, L i = true → preds ops L i
theorem reach {ops : Array Oper} {L : Nat → Bool} (hc : closed ops L) : ∀ (n j : Nat), j ≤ n → preds ops L j → ∀ k, ((aheads ops.toList []).getD j 0).testBit k = true → L k = true := by
 intro n
 induction n with
 | zero =>
  intro j hj hp k hk
  obtain rfl : j = 0 := by omega
  cases ho : ops[0]? with
  | none =>
   have hlen := (aheads_spec ops.toList []).1
   have : (aheads ops.toList [])[0]? = none := by
    rw [List.getElem?_eq_none_iff, hlen, List.length_nil, Nat.zero_add, Array.length_toList]
    exact Array.getElem?_eq_none_iff.1 ho
   rw [List.getD_eq_getElem?_getD, this] at hk
   simp at hk
  | some o =>
   have h := (aheads_spec ops.toList []).2.2 0 o (by rw [Array.getElem?_toList]; exact ho)
   simp only [List.length_nil, Nat.zero_add, List.take_zero] at h
   rw [List.getD_eq_getElem?_getD, h, Option.getD_some] at hk
   rcases foldl_bits _ _ _ _ hk with h0 | ⟨e, he, h1, h2⟩
   ·simp at h0
   ·rcases h2 with rfl | h2
    ·exact hp o ho e he h1
    ·simp at h2
 | succ n ih =>
  intro j hj hp k hk
  cases ho : ops[j]? with
  | none =>
   have hlen := (aheads_spec ops.toList []).1
   have : (aheads ops.toList [])[j]? = none := by
    rw [List.getElem?_eq_none_iff, hlen, List.length_nil, Nat.zero_add, Array.length_toList]
    exact Array.getElem?_eq_none_iff.1 ho
   rw [List.getD_eq_getElem?_getD, this] at hk
   simp at hk
  | some o =>
   have h := (aheads_spec ops.toList []).2.2 j o (by rw [Array.getElem?_toList]; exact ho)
   simp only [List.length_nil, Nat.zero_add] at h
   rw [List.getD_eq_getElem?_getD, h, Option.getD_some] at hk
   rcases foldl_bits _ _ _ _ hk with h0 | ⟨e, he, h1, h2⟩
   ·simp at h0
   ·have hL := hp o ho e he h1
    rcases h2 with rfl | h2
    ·exact hL
    ·rw [List.getD_eq_getElem?_getD, List.getElem?_take] at h2
     split at h2
     ·rename_i hlt
      refine ih e.on (by omega) (hc _ hL) k ?_
      rw [List.getD_eq_getElem?_getD]
      exact h2
     ·simp at h2
section
variable (tr : List Tr) (t0 : List D) (σ0 : Nat → Ob)
def touchS (x : Tr) (id : Nat) : Prop := match x.e with
  | some (.upd i _ _ _) => id = i
  | some (.new _ _) => id = x.s.length
  | some (.all _ _) => id ∉ x.k
  | _ => False
def doneT (L : Nat → Bool) : Nat → List D
  | 0 => t0
  | k + 1 => match L k, tr[k]? with
    | true, some x => put (doneT L k) x.o.dst x.val
    | _, _ => doneT L k
def doneS (L : Nat → Bool) : Nat → Nat → Ob
  | 0 => σ0
  | k + 1 => match L k, tr[k]? with
    | true, some x => match x.e with
      | some (.upd i _ o' _) => upd (doneS L k) i o'
      | some (.new o' _) => upd (doneS L k) x.s.length o'
      | some (.all s' _) => fun id => if id ∈ x.k then doneS L k id else stAt s' id
      | _ => doneS L k
    | _, _ => doneS L k
theorem put_get_other {t : List D} {dst : Option Nat} {d : D} {i : Nat} (h : dst ≠ some i) : (put t dst d)[i]? = t[i]? := by
 cases dst with
 | none => rfl
 | some j => exact List.getElem?_set_ne (fun e => h (by rw [e]))
theorem put_length (t : List D) (dst : Option Nat) (d : D) : (put t dst d).length = t.length := by cases dst <;> simp [put]
theorem doneT_length (L : Nat → Bool) : ∀ k, (doneT tr t0 L k).length = t0.length
 | 0 => rfl
 | k + 1 => by
  unfold doneT
  split
  ·rw [put_length, doneT_length L k]
  ·exact doneT_length L k
theorem doneT_agree {L L' : Nat → Bool} {i : Nat} : ∀ k, (∀ j x, j < k → tr[j]? = some x → x.o.dst = some i → L j = L' j) → (doneT tr t0 L k)[i]? = (doneT tr t0 L' k)[i]?
 | 0, _ => rfl
 | k + 1, h => by
  have ih := doneT_agree (L := L) (L' := L') (i := i) k (fun j x hj => h j x (by omega))
  have hlen : (doneT tr t0 L k).length = (doneT tr t0 L' k).length := by rw [doneT_length, doneT_length]
  unfold doneT
  cases hx : tr[k]? with
  | none => cases L k <;> cases L' k <;> exact ih
  | some x =>
   by_cases hd : x.o.dst = some i
   ·rw [h k x (by omega) hx hd]
    cases L' k
    ·exact ih
    ·simp only [hd, put, List.getElem?_set, hlen, if_true]
   ·cases L k <;> cases L' k <;> simp only [] <;> first | exact ih | (rw [put_get_other hd]; exact ih) | (rw [put_get_other hd, put_get_other hd]; exact ih)
theorem doneT_stay {L : Nat → Bool} {i : Nat} (m : Nat) : ∀ k, m ≤ k → (∀ j x, m ≤ j → j < k → tr[j]? = some x → x.o.dst = some i → L j = false) → (doneT tr t0 L k)[i]? = (doneT tr t0 L m)[i]?
 | 0, hm, _ => by
  have e : m = 0 := by omega
  subst e
  rfl
 | k + 1, hm, h => by
  by_cases e : m = k + 1
  ·subst e; rfl
  ·have ih := doneT_stay m k (by omega) (fun j x h1 h2 => h j x h1 (by omega))
   conv => lhs; unfold doneT
   cases hx : tr[k]? with
   | none => cases L k <;> exact ih
   | some x =>
    by_cases hd : x.o.dst = some i
    ·rw [h k x (by omega) (by omega) hx hd]; exact ih
    ·cases L k
     ·exact ih
     ·simp only []; rw [put_get_other hd]; exact ih
theorem doneS_agree {L L' : Nat → Bool} {id : Nat} : ∀ k, (∀ j x, j < k → tr[j]? = some x → touchS x id → L j = L' j) → doneS tr σ0 L k id = doneS tr σ0 L' k id
 | 0, _ => rfl
 | k + 1, h => by
  have ih := doneS_agree (L := L) (L' := L') (id := id) k (fun j x hj => h j x (by omega))
  unfold doneS
  cases hx : tr[k]? with
  | none => cases L k <;> cases L' k <;> exact ih
  | some x =>
   have hk := h k x (by omega) hx
   unfold touchS at hk
   cases he : x.e with
   | none => cases L k <;> cases L' k <;> simp only [he] <;> exact ih
   | some e =>
    rw [he] at hk
    cases e with
    | pure d => cases L k <;> cases L' k <;> simp only [he] <;> exact ih
    | read i o d => cases L k <;> cases L' k <;> simp only [he] <;> exact ih
    | upd i o o' d =>
     by_cases e1 : id = i
     ·rw [hk e1]; cases L' k <;> simp only [he, upd, e1, if_true] <;> (try exact e1 ▸ ih)
     ·cases L k <;> cases L' k <;> simp only [he, upd, e1, if_false] <;> exact ih
    | new o' mk =>
     by_cases e1 : id = x.s.length
     ·rw [hk e1]; cases L' k <;> simp only [he, upd, e1, if_true] <;> (try exact e1 ▸ ih)
     ·cases L k <;> cases L' k <;> simp only [he, upd, e1, if_false] <;> exact ih
    | all s' d =>
     by_cases e1 : id ∈ x.k
     ·cases L k <;> cases L' k <;> simp only [he, e1, if_true] <;> exact ih
     ·rw [hk e1]; cases L' k <;> simp only [he, e1, if_false]; exact ih
theorem doneS_stay {L : Nat → Bool} {id : Nat} (m : Nat) : ∀ k, m ≤ k → (∀ j x, m ≤ j → j < k → tr[j]? = some x → touchS x id → L j = false) → doneS tr σ0 L k id = doneS tr σ0 L m id
 | 0, hm, _ => by
  have e : m = 0 := by omega
  subst e
  rfl
 | k + 1, hm, h => by
  by_cases e : m = k + 1
  ·subst e; rfl
  ·have ih := doneS_stay m k (by omega) (fun j x h1 h2 => h j x h1 (by omega))
   conv => lhs; unfold doneS
   cases hx : tr[k]? with
   | none => cases L k <;> exact ih
   | some x =>
    have hk := h k x (by omega) (by omega) hx
    unfold touchS at hk
    cases hL : L k with
    | false => exact ih
    | true =>
     rw [hL] at hk
     simp only []
     cases he : x.e with
     | none => exact ih
     | some e =>
      rw [he] at hk
      cases e with
      | pure d => exact ih
      | read i o d => exact ih
      | upd i o o' d =>
       by_cases e1 : id = i
       ·exact absurd (hk e1) (by simp)
       ·simp only [upd, e1, if_false]; exact ih
      | new o' mk =>
       by_cases e1 : id = x.s.length
       ·exact absurd (hk e1) (by simp)
       ·simp only [upd, e1, if_false]; exact ih
      | all s' d =>
       by_cases e1 : id ∈ x.k
       ·simp only [e1, if_true]; exact ih
       ·exact absurd (hk e1) (by simp)
end
theorem done_all {P : Program} {ops : Array Oper} : ∀ {rest : List Oper} {t : List D} {s : List Ob} {tr : List Tr} {t' : List D} {s' : List Ob}, Trace P ops rest t s tr t' s' →
  (∀ (i : Nat) (x : Tr), tr[i]? = some x → doneT tr t (fun _ => true) i = x.t ∧ doneS tr (stAt s) (fun _ => true) i = stAt x.s ∧ s.length ≤ x.s.length ∧ x.nextS.length ≤ s'.length ∧
   (∀ (j : Nat) (y : Tr), j < i → tr[j]? = some y → y.nextS.length ≤ x.s.length) ∧ (∀ id, s.length ≤ id → id < x.s.length → ∃ j y, j < i ∧ tr[j]? = some y ∧ y.s.length ≤ id ∧ id < y.nextS.length)) ∧
  doneT tr t (fun _ => true) tr.length = t' ∧ doneS tr (stAt s) (fun _ => true) tr.length = stAt s'
 | [], t, s, tr, t', s', h => by
  obtain ⟨rfl, rfl, rfl⟩ := h
  exact ⟨fun i x hx => by simp at hx, rfl, rfl⟩
 | o :: rest, t, s, tr, t', s', h => by
  obtain ⟨x, xs, rfl, rfl, rfl, rfl, hok, h⟩ := h
  obtain ⟨ih, ih1, ih2⟩ := done_all h
  have hslen := nextS_len hok
  have shiftT : ∀ k, doneT (x :: xs) x.t (fun _ => true) (k + 1) = doneT xs x.nextT (fun _ => true) k := by
   intro k
   induction k with
   | zero => rfl
   | succ k ihk =>
    conv => lhs; unfold doneT
    conv => rhs; unfold doneT
    simp only [List.getElem?_cons_succ]
    cases xs[k]? with
    | none => exact ihk
    | some y => simp only []; rw [ihk]
  have hbase : doneS (x :: xs) (stAt x.s) (fun _ => true) 1 = stAt x.nextS := by
   unfold doneS doneS
   simp only [List.getElem?_cons_zero]
   unfold Tr.nextS
   cases he : x.e with
   | none => rfl
   | some e =>
    cases e with
    | pure d => rfl
    | read i o d => rfl
    | upd i ob ob' d =>
     have : i < x.s.length := by
      replace hok := hok.1
      unfold Tr.ok0 at hok
      rw [he] at hok
      split at hok
      ·obtain ⟨e0, h0, h1⟩ := hok; cases h0; exact h1.1.2
      ·obtain ⟨b, _, ⟨_, e0, h0, h1⟩ | ⟨_, h0⟩⟩ | ⟨_, h0⟩ := hok
       ·cases h0; exact h1.1.2
       ·cases h0
       ·cases h0
     simp only []
     rw [stAt_set this]
    | new ob mk => simp only []; rw [stAt_push]
    | all s2 d =>
     have hk := hok.2
     unfold Tr.kok at hk
     rw [he] at hk
     simp only []
     funext id
     by_cases e1 : id ∈ x.k
     ·rw [if_pos e1]; exact (hk id e1).2
     ·rw [if_neg e1]
  have shiftS : ∀ k, doneS (x :: xs) (stAt x.s) (fun _ => true) (k + 1) = doneS xs (stAt x.nextS) (fun _ => true) k := by
   intro k
   induction k with
   | zero => exact hbase
   | succ k ihk =>
    conv => lhs; unfold doneS
    conv => rhs; unfold doneS
    simp only [List.getElem?_cons_succ]
    cases xs[k]? with
    | none => exact ihk
    | some y => simp only []; rw [ihk]
  refine ⟨fun i y hy => ?_, by rw [List.length_cons, shiftT]; exact ih1, by rw [List.length_cons, shiftS]; exact ih2⟩
  cases i with
  | zero =>
   simp at hy
   subst hy
   exact ⟨rfl, rfl, Nat.le_refl _, trace_slen h, fun j y hj => by omega, fun id h1 h2 => by omega⟩
  | succ i =>
   obtain ⟨a1, a2, a3, a4, a5, a6⟩ := ih i y (by simpa using hy)
   refine ⟨by rw [shiftT]; exact a1, by rw [shiftS]; exact a2, by omega, a4, ?_, ?_⟩
   ·intro j z hj hz
    cases j with
    | zero => simp at hz; subst hz; exact a3
    | succ j => exact a5 j z (by omega) (by simpa using hz)
   ·intro id h1 h2
    rcases Nat.lt_or_ge id x.nextS.length with q | q
    ·exact ⟨0, x, by omega, rfl, h1, q⟩
    ·obtain ⟨j, z, b1, b2, b3, b4⟩ := a6 id q h2
     exact ⟨j + 1, z, by omega, by simpa using b2, b3, b4⟩
end Go.Ev
namespace Go.Ev
open Go Go.RowKit
theorem drawOK_out {ops : Array Oper} {tr : List Tr} (h : drawOK ops ((tr.map Tr.fp).reverse ++ []) = true) :
  tr.length = ops.size ∧ (∀ (j : Nat) (o : Oper), ops[j]? = some o → ∀ e ∈ o.after.toList, Region.binds .any e = true → e.on < j) ∧
  ∀ (i j : Nat) (x y : Tr) (ox oy : Oper), i < j → tr[i]? = some x → tr[j]? = some y → ops[i]? = some ox → ops[j]? = some oy → ((aheads ops.toList []).getD j 0).testBit i = true ∨ (share ops ox oy = false ∧ clash x.fp y.fp = false) := by
 unfold drawOK at h
 simp only [List.append_nil, List.reverse_reverse, List.length_map, Array.length_toList, Bool.and_eq_true, Nat.beq_eq, List.all_eq_true, List.mem_range] at h
 obtain ⟨hl, h⟩ := h
 refine ⟨hl, ?_, ?_⟩
 ·intro j o ho e he hb
  have hj : j < ops.size := by
   rcases Nat.lt_or_ge j ops.size with q | q
   ·exact q
   ·simp [Array.getElem?_eq_none q] at ho
  have := (h j hj).1
  rw [Array.getElem?_toList, ho] at this
  simp only [Array.all_eq_true_iff_forall_mem] at this
  have h1 := this e (by simpa using he)
  rw [hb] at h1
  simp only [Bool.not_true, Bool.false_or] at h1
  exact Nat.lt_of_succ_le (by simpa [Nat.blt, Nat.ble_eq] using h1)
 ·intro i j x y ox oy hij hx hy hox hoy
  have hj : j < ops.size := by
   rcases Nat.lt_or_ge j ops.size with q | q
   ·exact q
   ·simp [Array.getElem?_eq_none q] at hoy
  have := (h j hj).2 i hij
  rw [Array.getElem?_toList, Array.getElem?_toList, hox, hoy] at this
  simp only [List.getD_eq_getElem?_getD, List.getElem?_map, hx, hy, Option.map_some, Option.getD_some, Bool.or_eq_true, Bool.and_eq_true, Bool.not_eq_true'] at this
  rw [List.getD_eq_getElem?_getD]
  exact this
theorem memN_iff' {i : Nat} : ∀ {l : List Nat}, memN i l = true ↔ i ∈ l
 | [] => by simp [memN]
 | a :: r => by
  unfold memN
  split
  ·rename_i h; rw [Nat.beq_eq] at h; subst h; simp
  ·rename_i h
   rw [memN_iff']
   have : a ≠ i := fun e => by subst e; simp at h
   simp [Ne.symm this]
theorem touch_fp {z : Tr} {id : Nat} (h : touchS z id) : z.fp = .wr id ∨ z.fp = .nw id ∨ ∃ l, z.fp = .all l ∧ id ∉ l := by
 unfold touchS at h
 unfold Tr.fp
 cases he : z.e with
 | none => rw [he] at h; exact h.elim
 | some e =>
  rw [he] at h
  cases e with
  | pure d => exact h.elim
  | read i o d => exact h.elim
  | upd i o o' d => subst h; exact .inl rfl
  | new o mk => subst h; exact .inr (.inl rfl)
  | all s d => exact .inr (.inr ⟨z.k, rfl, h⟩)
theorem grow_fp {z : Tr} {id : Nat} (h1 : z.s.length ≤ id) (h2 : id < z.nextS.length) : z.fp = .nw id ∨ ∃ l, z.fp = .all l := by
 unfold Tr.nextS at h2
 unfold Tr.fp
 cases he : z.e with
 | none => rw [he] at h2; simp at h2; omega
 | some e =>
  rw [he] at h2
  cases e with
  | pure d => simp at h2; omega
  | read i o d => simp at h2; omega
  | upd i o o' d => simp at h2; omega
  | new o mk =>
   simp at h2
   have e : id = z.s.length := by omega
   subst e
   exact .inl rfl
  | all s d => exact .inr ⟨_, rfl⟩
section
variable {P : Program} {ops : Array Oper} {t0 : List D} {s0 : List Ob} {tr : List Tr} {tn : List D} {sn : List Ob} {w0 : Base} {M0 : MM} {df : List Deferred}
structure DInv (df : List Deferred) (P : Program) (ops : Array Oper) (t0 : List D) (s0 : List Ob) (tr : List Tr) (w0 : Base) (M0 : MM) (L : Nat → Bool) (M : MM) (own : Nat → Option Nat) (w : World) (a : Act) : Prop where
  cl : closed ops L
  rel : WRel w0 M own (doneS tr (stAt s0) L ops.size) w
  slots : RepL M (doneT tr t0 L ops.size) a.tmps
  defers : a.defers = df
  live : ∀ id, (M.box id ≠ none ∨ ∃ v, M.hist id v ≠ none) → id < s0.length ∨ ∃ (j : Nat) (y : Tr), L j = true ∧ tr[j]? = some y ∧ y.s.length ≤ id ∧ id < y.nextS.length
  le : M0.Le M
def addL (L : Nat → Bool) (i : Nat) : Nat → Bool := fun j => if j = i then true else L j
theorem step_draw (htr : Trace P ops ops.toList t0 s0 tr tn sn) (hd : drawOK ops ((tr.map Tr.fp).reverse ++ []) = true) {L : Nat → Bool} {M : MM} {own : Nat → Option Nat} {w : World} {a : Act} (inv : DInv df P ops t0 s0 tr w0 M0 L M own w a)
  {i : Nat} {x : Tr} (hx : tr[i]? = some x) (hLi : L i = false) (hp : preds ops L i) {Q : Exit → Act → World → Prop} {K : Act → World → Prop}
  (hK : ∀ M' own' w' a', DInv df P ops t0 s0 tr w0 M0 (addL L i) M' own' w' a' → K a' w') : ∀ rr, wpOpIn (FW rr) 0 P ops Q i K a w := by
 intro rr
 obtain ⟨hlen, hedge, hpair⟩ := drawOK_out hd
 obtain ⟨hall, _, _⟩ := done_all htr
 obtain ⟨ho', hok⟩ := trace_at htr i x hx
 have hat : ops[i]? = some x.o := by rw [← Array.getElem?_toList]; exact ho'
 have hop : ∀ {j : Nat} {y : Tr}, tr[j]? = some y → ops[j]? = some y.o := fun {j y} hy => by rw [← Array.getElem?_toList]; exact (trace_at htr j y hy).1
 have hin : i < ops.size := by
  rcases Nat.lt_or_ge i ops.size with q | q
  ·exact q
  ·simp [Array.getElem?_eq_none q] at hat
 obtain ⟨aT, aS, a3, a4, a5, a6⟩ := hall i x hx
 have before : ∀ {j : Nat} {y : Tr}, j < i → tr[j]? = some y → (share ops y.o x.o = true ∨ clash y.fp x.fp = true) → L j = true := by
  intro j y hj hy hc
  rcases hpair j i y x _ _ hj hy hx (hop hy) hat with h | ⟨h1, h2⟩
  ·exact reach inv.cl i i (Nat.le_refl _) hp j h
  ·rcases hc with hc | hc
   ·rw [h1] at hc; cases hc
   ·rw [h2] at hc; cases hc
 have after : ∀ {j : Nat} {y : Tr}, i < j → tr[j]? = some y → (share ops x.o y.o = true ∨ clash x.fp y.fp = true) → L j = false := by
  intro j y hj hy hc
  rcases hpair i j x y _ _ hj hx hy hat (hop hy) with h | ⟨h1, h2⟩
  ·cases e : L j with
   | false => rfl
   | true =>
    have := reach inv.cl j j (Nat.le_refl _) (inv.cl j e) i h
    rw [hLi] at this; cases this
  ·rcases hc with hc | hc
   ·rw [h1] at hc; cases hc
   ·rw [h2] at hc; cases hc
 have clash_of : ∀ {f g : FP} {id : Nat}, (f = .wr id ∨ f = .nw id ∨ ∃ l, f = .all l ∧ id ∉ l) → (g = .rd id ∨ g = .wr id ∨ g = .nw id ∨ ∃ l, g = .all l) → clash f g = true := by
  intro f g id h1 h2
  rcases h1 with rfl | rfl | ⟨l, rfl, hl⟩ <;> rcases h2 with rfl | rfl | rfl | ⟨l', rfl⟩ <;> simp [clash]
  cases e : memN id l
  ·rfl
  ·exact absurd (memN_iff'.1 e) hl
 have clash_of' : ∀ {f g : FP} {id : Nat}, (f = .rd id ∨ f = .wr id ∨ f = .nw id ∨ ∃ l, f = .all l) → (g = .wr id ∨ g = .nw id ∨ ∃ l, g = .all l ∧ id ∉ l) → clash f g = true := by
  intro f g id h1 h2
  rcases h1 with rfl | rfl | rfl | ⟨l', rfl⟩ <;> rcases h2 with rfl | rfl | ⟨l, rfl, hl⟩ <;> simp [clash]
  cases e : memN id l
  ·rfl
  ·exact absurd (memN_iff'.1 e) hl
 have F1 : ∀ y, y ∈ looks ops x.o → (doneT tr t0 L ops.size)[y]? = x.t[y]? := by
  intro y hy
  rw [doneT_stay tr t0 (L := L) (i := y) i ops.size (by omega) (fun j z h1 h2 hz hdst => by
   rcases Nat.lt_or_eq_of_le h1 with h | h
   ·refine after h hz (.inl ?_)
    unfold share
    rw [hdst]
    simp only [Bool.or_eq_true]
    right
    simpa using hy
   ·rw [← h]; exact hLi)]
  rw [doneT_agree tr t0 (L := L) (L' := fun _ => true) (i := y) i (fun j z hj hz hdst => by
   refine before hj hz (.inl ?_)
   unfold share
   rw [hdst]
   simp only [Bool.or_eq_true]
   left; left
   simpa using hy), aT]
 have hops : ∀ y ∈ x.o.op.operands, opnd (doneT tr t0 L ops.size) y = opnd x.t y := by
  intro y hy
  cases y with
  | tmp k =>
   have : k ∈ looks ops x.o := by
    unfold looks tmpsOf
    refine List.mem_append.2 (.inl (List.mem_filterMap.2 ⟨.tmp k, by simpa using hy, rfl⟩))
   show List.getD _ _ _ = List.getD _ _ _
   rw [List.getD_eq_getElem?_getD, List.getD_eq_getElem?_getD, F1 k this]
  | const v => rfl
  | global g => rfl
  | func f => rfl
 have hrep : ∀ y ∈ x.o.op.operands, Rep M (opnd x.t y) (a.eval y) := fun y hy => by rw [← hops y hy]; exact rep_opnd inv.slots y
 have F2 : ∀ id, (x.fp = .rd id ∨ x.fp = .wr id ∨ x.fp = .nw id ∨ ∃ l, x.fp = .all l) → doneS tr (stAt s0) L ops.size id = stAt x.s id := by
  intro id hfp
  rw [doneS_stay tr (stAt s0) (L := L) (id := id) i ops.size (by omega) (fun j z h1 h2 hz ht => by
   rcases Nat.lt_or_eq_of_le h1 with h | h
   ·exact after h hz (.inr (clash_of' hfp (touch_fp ht)))
   ·rw [← h]; exact hLi)]
  rw [doneS_agree tr (stAt s0) (L := L) (L' := fun _ => true) (id := id) i (fun j z hj hz ht => before hj hz (.inr (clash_of (touch_fp ht) hfp))), aS]
 have hadd : ∀ {j : Nat}, j ≠ i → addL L i j = L j := fun {j} h => by simp [addL, h]
 have haddi : addL L i i = true := by simp [addL]
 have hclosed : closed ops (addL L i) := by
  intro j hj o ho e he hb
  by_cases e1 : j = i
  ·subst e1
   by_cases e2 : e.on = j
   ·rw [e2]; exact haddi
   ·rw [hadd e2]; exact hp o ho e he hb
  ·rw [hadd e1] at hj
   by_cases e2 : e.on = i
   ·rw [e2]; exact haddi
   ·rw [hadd e2]; exact inv.cl j hj o ho e he hb
 have hslots : ∀ {M' : MM} {v : Value}, M.Le M' → Rep M' x.val v → RepL M' (doneT tr t0 (addL L i) ops.size) (a.put x.o.dst v).tmps := by
  intro M' v le hv
  have hl := inv.slots.1
  rw [doneT_length] at hl
  refine ⟨by rw [doneT_length]; cases x.o.dst <;> simp [Act.put, hl], fun y d u h1 h2 => ?_⟩
  by_cases e : x.o.dst = some y
  ·rw [doneT_stay tr t0 (L := addL L i) (i := y) (i + 1) ops.size (by omega) (fun j z q1 q2 hz hdst => by
    rw [hadd (by omega)]
    refine after (by omega) hz (.inl ?_)
    unfold share
    rw [e]
    simp only [Bool.or_eq_true]
    left; right
    simp [hdst])] at h1
   unfold doneT at h1
   simp only [haddi, hx, e, put] at h1
   rw [List.getElem?_set] at h1
   simp only [if_true] at h1
   split at h1
   ·obtain rfl := Option.some.inj h1
    simp only [e, Act.put] at h2
    rw [Array.getElem?_setIfInBounds] at h2
    simp only [if_true] at h2
    split at h2
    ·obtain rfl := Option.some.inj h2; exact hv
    ·cases h2
   ·cases h1
  ·rw [doneT_agree tr t0 (L := addL L i) (L' := L) (i := y) ops.size (fun j z hj hz hdst => hadd (fun q => by subst q; rw [hx] at hz; obtain rfl := Option.some.inj hz; exact e hdst))] at h1
   have h2' : a.tmps[y]? = some u := by
    cases hdst : x.o.dst with
    | none => rw [hdst] at h2; exact h2
    | some k =>
     rw [hdst] at h2
     simp only [Act.put] at h2
     rw [Array.getElem?_setIfInBounds_ne (fun q => e (by rw [hdst, q]))] at h2
     exact h2
   exact (inv.slots.2 y d u h1 h2').mono le
 have hsame : ∀ id, ¬ touchS x id → doneS tr (stAt s0) (addL L i) ops.size id = doneS tr (stAt s0) L ops.size id := fun id h =>
  doneS_agree tr (stAt s0) ops.size (fun j z hj hz ht => hadd (fun q => by subst q; rw [hx] at hz; obtain rfl := Option.some.inj hz; exact h ht))
 have hnew : ∀ id, touchS x id → doneS tr (stAt s0) (addL L i) ops.size id = doneS tr (stAt s0) (addL L i) (i + 1) id := fun id h =>
  doneS_stay tr (stAt s0) (i + 1) ops.size (by omega) (fun j z q1 q2 hz ht => by
   rw [hadd (by omega)]
   refine after (by omega) hz (.inr (clash_of' ?_ (touch_fp ht)))
   rcases touch_fp h with q | q | ⟨l, q, _⟩
   ·exact .inr (.inl q)
   ·exact .inr (.inr (.inl q))
   ·exact .inr (.inr (.inr ⟨l, q⟩)))
 have liveOld : ∀ id, (M.box id ≠ none ∨ ∃ v, M.hist id v ≠ none) → id < s0.length ∨ ∃ (j : Nat) (y : Tr), addL L i j = true ∧ tr[j]? = some y ∧ y.s.length ≤ id ∧ id < y.nextS.length := by
  intro id h
  rcases inv.live id h with q | ⟨j, y, q1, q2, q3, q4⟩
  ·exact .inl q
  ·exact .inr ⟨j, y, by by_cases e : j = i <;> simp [addL, e, q1], q2, q3, q4⟩
 have liveLow : ∀ id, (x.fp = .wr id ∨ ∃ l, x.fp = .all l) → id < x.s.length → id < s0.length ∨ ∃ (j : Nat) (y : Tr), addL L i j = true ∧ tr[j]? = some y ∧ y.s.length ≤ id ∧ id < y.nextS.length := by
  intro id hfp hid
  rcases Nat.lt_or_ge id s0.length with q | q
  ·exact .inl q
  ·obtain ⟨j, y, b1, b2, b3, b4⟩ := a6 id q hid
   refine .inr ⟨j, y, ?_, b2, b3, b4⟩
   rw [hadd (by omega)]
   refine before b1 b2 (.inr ?_)
   rcases grow_fp b3 b4 with h | ⟨l, h⟩
   ·refine clash_of (id := id) (.inr (.inl h)) ?_
    rcases hfp with h | h
    ·exact .inr (.inl h)
    ·exact .inr (.inr (.inr h))
   ·rcases hfp with h2 | ⟨l2, h2⟩ <;> rw [h, h2] <;> rfl
 have eff : ∀ {e0 : Eff}, x.e = some e0 → EffOK P x.o (opnd x.t) x.s e0 → wpO P x.o a w K Q := by
  intro e0 he h0
  have hval : x.val = e0.val x.s.length := by unfold Tr.val; rw [he]
  cases e0 with
  | pure d =>
   have hnt : ∀ id, ¬ touchS x id := fun id h => by unfold touchS at h; rw [he] at h; exact h
   refine h0 w0 M own _ w a x.s.length inv.rel hrep trivial K Q fun v M' own' w' le ad hw' hr => hK M' own' w' _ ⟨hclosed, ?_, hslots le (by rw [hval]; exact hr), by rw [put_defers]; exact inv.defers, ?_, inv.le.trans le⟩
   ·rw [show doneS tr (stAt s0) (addL L i) ops.size = doneS tr (stAt s0) L ops.size from funext fun id => hsame id (hnt id)]; exact hw'
   ·intro id h; rw [ad.1, ad.2] at h; exact liveOld id h
  | read k ob d =>
   have hnt : ∀ id, ¬ touchS x id := fun id h => by unfold touchS at h; rw [he] at h; exact h
   have hfp : x.fp = .rd k := by unfold Tr.fp; rw [he]
   refine h0.2 w0 M own _ w a x.s.length inv.rel hrep (by show doneS _ _ _ _ k = ob; rw [F2 k (.inl hfp)]; exact h0.1.1) K Q fun v M' own' w' le ad hw' hr => hK M' own' w' _ ⟨hclosed, ?_, hslots le (by rw [hval]; exact hr), by rw [put_defers]; exact inv.defers, ?_, inv.le.trans le⟩
   ·rw [show doneS tr (stAt s0) (addL L i) ops.size = doneS tr (stAt s0) L ops.size from funext fun id => hsame id (hnt id)]; exact hw'
   ·intro id h; rw [ad.1, ad.2] at h; exact liveOld id h
  | upd k ob ob' d =>
   have hfp : x.fp = .wr k := by unfold Tr.fp; rw [he]
   have htk : touchS x k := by unfold touchS; rw [he]
   refine h0.2 w0 M own _ w a x.s.length inv.rel hrep (by show doneS _ _ _ _ k = ob; rw [F2 k (.inr (.inl hfp))]; exact h0.1.1) K Q fun v M' own' w' le ad hw' hr => hK M' own' w' _ ⟨hclosed, ?_, hslots le (by rw [hval]; exact hr), by rw [put_defers]; exact inv.defers, ?_, inv.le.trans le⟩
   ·rw [show doneS tr (stAt s0) (addL L i) ops.size = Eff.post (.upd k ob ob' d) (doneS tr (stAt s0) L ops.size) x.s.length from funext fun id => by
     by_cases e : id = k
     ·subst e
      rw [hnew id htk]
      unfold doneS
      simp only [haddi, hx, he, Eff.post, upd_same]
     ·rw [hsame id (fun h => by unfold touchS at h; rw [he] at h; exact e h)]
      simp only [Eff.post, upd_other e]]
    exact hw'
   ·intro id h
    by_cases e : id = k
    ·subst e; exact liveLow id (.inl hfp) h0.1.2
    ·rw [ad.1, ad.2 id e] at h; exact liveOld id h
  | new ob mk =>
   have htk : touchS x x.s.length := by unfold touchS; rw [he]
   have hnext : x.nextS.length = x.s.length + 1 := by unfold Tr.nextS; rw [he]; simp
   have hfresh : ¬ (M.box x.s.length ≠ none ∨ ∃ v, M.hist x.s.length v ≠ none) := by
    intro h
    rcases inv.live _ h with q | ⟨j, y, q1, q2, q3, q4⟩
    ·omega
    ·rcases Nat.lt_trichotomy j i with c | c | c
     ·have := a5 j y c q2; omega
     ·subst c; rw [hLi] at q1; cases q1
     ·have := (hall j y q2).2.2.2.2.1 i x c hx; omega
   have hf1 : M.box x.s.length = none := by
    cases e : M.box x.s.length with
    | none => rfl
    | some b => exact absurd (.inl (by rw [e]; simp)) hfresh
   have hf2 : ∀ v, M.hist x.s.length v = none := fun v => by
    cases e : M.hist x.s.length v with
    | none => rfl
    | some b => exact absurd (.inr ⟨v, by rw [e]; simp⟩) hfresh
   refine h0 w0 M own _ w a x.s.length inv.rel hrep ⟨hf1, hf2⟩ K Q fun v M' own' w' le ad hw' hr => hK M' own' w' _ ⟨hclosed, ?_, hslots le (by rw [hval]; exact hr), by rw [put_defers]; exact inv.defers, ?_, inv.le.trans le⟩
   ·rw [show doneS tr (stAt s0) (addL L i) ops.size = Eff.post (.new ob mk) (doneS tr (stAt s0) L ops.size) x.s.length from funext fun id => by
     by_cases e : id = x.s.length
     ·subst e
      rw [hnew _ htk]
      unfold doneS
      simp only [haddi, hx, he, Eff.post, upd_same]
     ·rw [hsame id (fun h => by unfold touchS at h; rw [he] at h; exact e h)]
      simp only [Eff.post, upd_other e]]
    exact hw'
   ·intro id h
    by_cases e : id = x.s.length
    ·exact .inr ⟨i, x, haddi, hx, by omega, by omega⟩
    ·rw [ad.1 id e, ad.2 id e] at h; exact liveOld id h
  | all s' d =>
   have hfp : x.fp = .all x.k := by unfold Tr.fp; rw [he]
   have hta : ∀ id, id ∉ x.k → touchS x id := fun id hk => by unfold touchS; rw [he]; exact hk
   have hkk : ∀ id ∈ x.k, id < x.s.length ∧ x.s.getD id .dead = s'.getD id .dead := by have := hok.2; unfold Tr.kok at this; rw [he] at this; exact this
   have hnext : x.nextS = s' := by unfold Tr.nextS; rw [he]
   have hrel : WRel w0 M own (stAt x.s) w := by
    rw [← show doneS tr (stAt s0) L ops.size = stAt x.s from funext fun id => F2 id (.inr (.inr (.inr ⟨_, hfp⟩)))]; exact inv.rel
   have hnone : ∀ id, x.s.length ≤ id → ¬ (M.box id ≠ none ∨ ∃ v, M.hist id v ≠ none) := by
    intro id hid h
    rcases inv.live _ h with q | ⟨j, y, q1, q2, q3, q4⟩
    ·omega
    ·have hy : y.fp = .nw id ∨ ∃ l, y.fp = .all l := grow_fp q3 q4
     rcases Nat.lt_trichotomy j i with c | c | c
     ·have := a5 j y c q2; omega
     ·subst c; rw [hLi] at q1; cases q1
     ·have := after c q2 (.inr (by rw [hfp]; rcases hy with h | ⟨l, h⟩ <;> rw [h] <;> rfl))
      rw [q1] at this; cases this
   have hup : M.upto x.s.length := by
    refine ⟨fun id hid => ?_, fun id v hid => ?_⟩
    ·cases e : M.box id with
     | none => rfl
     | some b => exact absurd (.inl (by rw [e]; simp)) (hnone id hid)
    ·cases e : M.hist id v with
     | none => rfl
     | some b => exact absurd (.inr ⟨v, by rw [e]; simp⟩) (hnone id hid)
   refine h0.2 w0 M own w a hrel hup hrep K Q fun v M' own' w' le up hw' hr => hK M' own' w' _ ⟨hclosed, ?_, hslots le (by rw [hval]; exact hr), by rw [put_defers]; exact inv.defers, ?_, inv.le.trans le⟩
   ·rw [show doneS tr (stAt s0) (addL L i) ops.size = stAt s' from funext fun id => by
     by_cases e1 : id ∈ x.k
     ·rw [hsame id (fun h => by unfold touchS at h; rw [he] at h; exact h e1), F2 id (.inr (.inr (.inr ⟨_, hfp⟩)))]
      exact (hkk id e1).2
     ·rw [hnew id (hta id e1)]
      unfold doneS
      simp only [haddi, hx, he, if_neg e1]]
    exact hw'
   ·intro id h
    have hlt : id < s'.length := by
     rcases Nat.lt_or_ge id s'.length with q | q
     ·exact q
     ·rcases h with h | ⟨v, h⟩
      ·exact absurd (up.1 id q) h
      ·exact absurd (up.2 id v q) h
    rcases Nat.lt_or_ge id x.s.length with q | q
    ·exact liveLow id (.inr ⟨_, hfp⟩) q
    ·exact .inr ⟨i, x, haddi, hx, q, by rw [hnext]; exact hlt⟩
 unfold wpOpIn
 rw [hat]
 simp only []
 replace hok := hok.1
 unfold Tr.ok0 at hok
 split at hok
 ·rename_i hg
  obtain ⟨e0, he, h0⟩ := hok
  have : Region.wanted x.o (yielded ops a.tmps) = true := by simp [Region.wanted, hg]
  rw [if_pos this]
  exact eff he h0 rr
 ·rename_i j want hg
  have hslot : ∀ k, (ops[j]?).bind (·.dst) = some k → Rep M (x.t.getD k .undef) (a.tmps.getD k undef) := by
   intro k hk
   have : k ∈ looks ops x.o := by
    unfold looks
    refine List.mem_append.2 (.inr ?_)
    rw [hg]
    cases hq : ops[j]? with
    | none => rw [hq] at hk; cases hk
    | some q =>
     rw [hq] at hk
     simp only [Option.bind_some] at hk
     simp only [hq, hk]
     simp
   have h1 := repL_getD inv.slots k
   rw [List.getD_eq_getElem?_getD, F1 k this, ← List.getD_eq_getElem?_getD] at h1
   exact h1
  have skip : x.e = none → Region.wanted x.o (yielded ops a.tmps) = false → (if Region.wanted x.o (yielded ops a.tmps) then x.o.wpIn (FW rr) 0 P a w K Q else (∀ f, x.o.about P w a.eval = some f → (FW rr).fn f) ∧ K (a.put x.o.dst undef) w) := by
   intro he this
   rw [this]
   refine ⟨fun _ _ => trivial, ?_⟩
   have hnt : ∀ id, ¬ touchS x id := fun id h => by unfold touchS at h; rw [he] at h; exact h
   have hval : x.val = .tup [] := by unfold Tr.val; rw [he]
   refine hK M own w _ ⟨hclosed, ?_, hslots (.refl M) (by rw [hval]; exact rep_skip), by rw [put_defers]; exact inv.defers, liveOld, inv.le⟩
   rw [show doneS tr (stAt s0) (addL L i) ops.size = doneS tr (stAt s0) L ops.size from funext fun id => hsame id (hnt id)]
   exact inv.rel
  rcases hok with ⟨b, hb, hcase⟩ | ⟨hb, he⟩
  ·have hy : yielded ops a.tmps j = some b := guard_val (M := M) (t := x.t) hslot hb
   rcases hcase with ⟨rfl, e0, he, h0⟩ | ⟨hne, he⟩
   ·have : Region.wanted x.o (yielded ops a.tmps) = true := by simp [Region.wanted, hg, hy]
    rw [if_pos this]
    exact eff he h0 rr
   ·exact skip he (by simp [Region.wanted, hg, hy, hne])
  ·have hy : yielded ops a.tmps j = none := guard_undef (M := M) (t := x.t) hslot hb
   exact skip he (by simp [Region.wanted, hg, hy])
theorem ready_iff {listed : Array Bool} (hl : listed.size = ops.size) (i : Nat) : i ∈ Region.ready .any ops listed ↔ i < ops.size ∧ listed.getD i false = false ∧ preds ops (fun j => listed.getD j false) i := by
 unfold Region.ready
 rw [List.mem_filter, List.mem_range]
 constructor
 ·rintro ⟨h1, h2⟩
  have ho : ops[i]? = some ops[i] := by simp [h1]
  rw [ho] at h2
  simp only [Option.map_some, Option.getD_some, Bool.and_eq_true, Bool.not_eq_true', Array.all_eq_true_iff_forall_mem] at h2
  refine ⟨h1, ?_, ?_⟩
  ·have := h2.1
   rw [Array.getD_eq_getD_getElem?] at this ⊢
   cases e : listed[i]? with
   | none => rfl
   | some b => rw [e] at this; exact this
  ·intro o hoo e he hb
   rw [ho] at hoo
   obtain rfl := Option.some.inj hoo
   have := h2.2 e (by simpa using he)
   rw [hb] at this
   simpa using this
 ·rintro ⟨h1, h2, h3⟩
  refine ⟨h1, ?_⟩
  have ho : ops[i]? = some ops[i] := by simp [h1]
  rw [ho]
  simp only [Option.map_some, Option.getD_some, Bool.and_eq_true, Bool.not_eq_true', Array.all_eq_true_iff_forall_mem]
  refine ⟨?_, fun e he => ?_⟩
  ·rw [Array.getD_eq_getD_getElem?] at h2 ⊢
   have : listed[i]? = some listed[i] := by simp [hl, h1]
   rw [this] at h2 ⊢
   exact h2
  ·cases hb : Region.binds .any e with
   | false => rfl
   | true =>
    have := h3 _ ho e (by simpa using he) hb
    simpa using this
theorem draw_any (htr : Trace P ops ops.toList t0 s0 tr tn sn) (hd : drawOK ops ((tr.map Tr.fp).reverse ++ []) = true) {Q : Exit → Act → World → Prop}
  (hq : ∀ M' own' w' a', M0.Le M' → M'.upto sn.length → WRel w0 M' own' (stAt sn) w' → RepL M' tn a'.tmps → a'.defers = df → Q .normal a' w') (rr : Option Nat) :
  ∀ (fuel : Nat) (listed : Array Bool) (M : MM) (own : Nat → Option Nat) (w : World) (a : Act), listed.size = ops.size → listed.toList.count false ≤ fuel → DInv df P ops t0 s0 tr w0 M0 (fun j => listed.getD j false) M own w a → wpAnyIn (FW rr) 0 P .any ops Q fuel listed a w := by
 obtain ⟨hlen, hedge, _⟩ := drawOK_out hd
 obtain ⟨hall, hT, hS⟩ := done_all htr
 have fin : ∀ {listed : Array Bool} {M : MM} {own : Nat → Option Nat} {w : World} {a : Act}, (∀ j, j < ops.size → listed.getD j false = true) → DInv df P ops t0 s0 tr w0 M0 (fun j => listed.getD j false) M own w a → Q .normal a w := by
  intro listed M own w a hdone inv
  have e1 : doneT tr t0 (fun j => listed.getD j false) ops.size = tn := by
   rw [← hT, hlen]
   apply List.ext_getElem?
   intro k
   exact doneT_agree tr t0 ops.size (fun j x hj _ _ => hdone j hj)
  have e2 : doneS tr (stAt s0) (fun j => listed.getD j false) ops.size = stAt sn := by
   rw [← hS, hlen]
   funext id
   exact doneS_agree tr (stAt s0) ops.size (fun j x hj _ _ => hdone j hj)
  have hnone : ∀ id, sn.length ≤ id → ¬ (M.box id ≠ none ∨ ∃ v, M.hist id v ≠ none) := by
   intro id hid h
   rcases inv.live _ h with q | ⟨j, y, q1, q2, q3, q4⟩
   ·have := trace_slen htr; omega
   ·have := (hall j y q2).2.2.2.1; omega
  refine hq M own w a inv.le ⟨fun id hid => ?_, fun id v hid => ?_⟩ (e2 ▸ inv.rel) (e1 ▸ inv.slots) inv.defers
  ·cases e : M.box id with
   | none => rfl
   | some b => exact absurd (.inl (by rw [e]; simp)) (hnone id hid)
  ·cases e : M.hist id v with
   | none => rfl
   | some b => exact absurd (.inr ⟨v, by rw [e]; simp⟩) (hnone id hid)
 have nothing : ∀ {listed : Array Bool}, listed.size = ops.size → Region.ready .any ops listed = [] → ∀ j, j < ops.size → listed.getD j false = true := by
  intro listed hl hr j
  induction j using Nat.strongRecOn with
  | _ j ih =>
   intro hj
   cases e : listed.getD j false with
   | true => rfl
   | false =>
    have : j ∈ Region.ready .any ops listed := (ready_iff hl j).2 ⟨hj, e, fun o ho ed he hb => ih ed.on (hedge j o ho ed he hb) (by have := hedge j o ho ed he hb; omega)⟩
    rw [hr] at this
    cases this
 intro fuel
 induction fuel with
 | zero =>
  intro listed M own w a hl hc inv
  have hdone : ∀ j, j < ops.size → listed.getD j false = true := by
   intro j hj
   have h0 : listed.toList.count false = 0 := by omega
   rw [List.count_eq_zero] at h0
   have hj' : j < listed.size := by omega
   rw [Array.getD_eq_getD_getElem?]
   have : listed[j]? = some listed[j] := by simp [hj']
   rw [this]
   cases e : listed[j] with
   | true => simp
   | false => exact absurd (by rw [← e]; simp) h0
  refine ⟨?_, fin hdone inv⟩
  apply List.eq_nil_iff_forall_not_mem.2
  intro i hi
  have := (ready_iff hl i).1 hi
  rw [hdone i this.1] at this
  exact absurd this.2.1 (by simp)
 | succ fuel ih =>
  intro listed M own w a hl hc inv
  refine ⟨fun hr => fin (nothing hl hr) inv, fun i hi => ?_⟩
  obtain ⟨h1, h2, h3⟩ := (ready_iff hl i).1 hi
  have hx : tr[i]? = some (tr[i]'(by omega)) := by simp [show i < tr.length by omega]
  refine step_draw htr hd inv hx h2 h3 (fun M' own' w' a' inv' => ih _ M' own' w' a' (by simp [hl]) ?_ ?_) rr
  ·have hlt : i < listed.toList.length := by simp [hl, h1]
   have hget : listed.toList[i] = false := by
    rw [Array.getD_eq_getD_getElem?] at h2
    have : listed[i]? = some listed[i] := by simp [hl, h1]
    rw [this] at h2
    simpa using h2
   have hset : (listed.setIfInBounds i true).toList = listed.toList.set i true := by simp
   rw [hset, List.count_set hlt]
   have hpos : 0 < listed.toList.count false := List.count_pos_iff.2 (by rw [← hget]; simp)
   rw [hget]
   rw [show (if (false == false) = true then 1 else 0) = 1 from rfl, show (if (true == false) = true then 1 else 0) = 0 from rfl]
   omega
  ·have : (fun j => (listed.setIfInBounds i true).getD j false) = addL (fun j => listed.getD j false) i := by
    funext j
    unfold addL
    simp only [Array.getD_eq_getD_getElem?]
    by_cases e : j = i
    ·subst e; simp [hl, h1]
    ·rw [Array.getElem?_setIfInBounds_ne (Ne.symm e), if_neg e]
   rw [this]
   exact inv'
theorem region_draw (htr : Trace P ops ops.toList t0 s0 tr tn sn) (hd : drawOK ops ((tr.map Tr.fp).reverse ++ []) = true) (hm : P.follows .mixedOrders = true) {M : MM} {own : Nat → Option Nat} {w : World} {a : Act} (id : Nat)
  (hw : WRel w0 M own (stAt s0) w) (hu : M.upto s0.length) (ht : RepL M t0 a.tmps) (hdf : a.defers = df) {Q : Exit → Act → World → Prop} (rr : Option Nat)
  (hq : ∀ M' own' w' a', M.Le M' → M'.upto sn.length → WRel w0 M' own' (stAt sn) w' → RepL M' tn a'.tmps → a'.defers = df → Q .normal a' w') : (Code.region id ops true).wpIn (FW rr) 0 P Q a w := by
 refine wpIn_region_any hm (draw_any (w0 := w0) (M0 := M) htr hd hq rr ops.size _ M own _ a (by simp) ?_ ?_)
 ·rw [Array.toList_replicate]; simp
 ·have hL : ∀ j, (Array.replicate ops.size false).getD j false = false := fun j => by
   rw [Array.getD_eq_getD_getElem?, Array.getElem?_replicate]
   split <;> rfl
  have eT : ∀ k, doneT tr t0 (fun j => (Array.replicate ops.size false).getD j false) k = t0 := by
   intro k
   induction k with
   | zero => rfl
   | succ k ih => unfold doneT; simp only [hL k]; exact ih
  have eS : ∀ k, doneS tr (stAt s0) (fun j => (Array.replicate ops.size false).getD j false) k = stAt s0 := by
   intro k
   induction k with
   | zero => rfl
   | succ k ih => unfold doneS; simp only [hL k]; exact ih
  refine ⟨fun j hj => ?_, ?_, ?_, hdf, ?_, .refl M⟩
  ·rw [hL j] at hj; cases hj
  ·rw [eS]; exact hw.drew
  ·rw [eT]; exact ht
  ·intro id h
   left
   rcases Nat.lt_or_ge id s0.length with q | q
   ·exact q
   ·rcases h with h | ⟨v, h⟩
    ·exact absurd (hu.1 id q) h
    ·exact absurd (hu.2 id v q) h
end
end Go.Ev

namespace Go.Ev
open Go Go.RowKit
theorem memN_iff {i : Nat} : ∀ {l : List Nat}, memN i l = true ↔ i ∈ l
 | [] => by simp [memN]
 | a :: r => by
  unfold memN
  split
  ·rename_i h; rw [Nat.beq_eq] at h; subst h; simp
  ·rename_i h
   rw [memN_iff]
   have : a ≠ i := fun e => by subst e; simp at h
   simp [Ne.symm this]
theorem MM.cut_mono {M M' : MM} (h : M.Le M') (n : Nat) : (M.cut n).Le (M'.cut n) := by
 refine ⟨h.cell, fun i b k => ?_, fun i v b k => ?_, h.mrk⟩
 ·simp only [MM.cut] at k ⊢
  split at k
  ·rename_i q; rw [if_pos q]; exact h.box _ _ k
  ·cases k
 ·simp only [MM.cut] at k ⊢
  split at k
  ·rename_i q; rw [if_pos q]; exact h.hist _ _ _ k
  ·cases k
theorem MM.cut_cut {M : MM} {n : Nat} : ((M.cut n).cut n) = M.cut n := by
 unfold MM.cut
 congr 1
 ·funext i; by_cases h : i < n <;> simp [h]
 ·funext i v; by_cases h : i < n <;> simp [h]
theorem MM.le_cut {M : MM} {n : Nat} (h : M.upto n) : M.Le (M.cut n) := by
 refine ⟨fun _ _ _ h => h, fun i b k => ?_, fun i v b k => ?_, fun _ h => h⟩
 ·simp only [MM.cut]
  split
  ·exact k
  ·rw [h.1 i (by omega)] at k; cases k
 ·simp only [MM.cut]
  split
  ·exact k
  ·rw [h.2 i v (by omega)] at k; cases k
theorem idsBL_eq (n : Nat) : ∀ l : List D, idsBL n l = l.all (idsB n)
 | [] => by simp [idsBL]
 | d :: r => by simp [idsBL, idsBL_eq n r]
theorem Rep.cut {M : MM} {d : D} {v : Value} (h : Rep M d v) : ∀ {n : Nat}, idsB n d = true → Rep (M.cut n) d v := by
 induction h with
 | undef v => exact fun _ => .undef v
 | int k n => exact fun _ => .int k n
 | bool b => exact fun _ => .bool b
 | str s => exact fun _ => .str s
 | nilp => exact fun _ => .nilp
 | ptr q h => intro n c; simp only [idsB, Nat.blt_eq] at c; exact .ptr q (by simp only [MM.cut, c, if_true]; exact h)
 | eptr q vs hx hc hr ih => intro n c; exact .eptr q vs hx hc hr
 | mapp h => intro n c; simp only [idsB, Nat.blt_eq] at c; exact .mapp (by simp only [MM.cut, c, if_true]; exact h)
 | yld h => intro n c; simp only [idsB, Nat.blt_eq] at c; exact .yld (by simp only [MM.cut, c, if_true]; exact h)
 | slc h hh hc => intro n c; simp only [idsB, Nat.blt_eq] at c; exact .slc (by simp only [MM.cut, c, if_true]; exact h) (by simp only [MM.cut, c, if_true]; exact hh) hc
 | lst b off vs hl hcap ha hsz hc hr hst ho ih =>
  intro n c
  refine .lst b off vs hl hcap ha hsz hc hr hst ?_
  rename_i M o _ _ _ _ _
  cases o with
  | tok t v => simp only [idsB, Nat.blt_eq] at c; simp only [MM.owns, MM.cut, c, if_true]; exact ho
  | no => trivial
  | fresh k => trivial
  | tight => exact ho
 | nilf => exact fun _ => .nilf
 | fn h1 h2 r1 r2 i1 i2 =>
  intro n c
  rw [idsB, idsBL_eq, idsBL_eq, Bool.and_eq_true, List.all_eq_true, List.all_eq_true] at c
  exact .fn h1 h2 (fun i d v a b => i1 i d v a b (c.1 _ (List.mem_of_getElem? a))) (fun i d v a b => i2 i d v a b (c.2 _ (List.mem_of_getElem? a)))
 | agg h r ih =>
  intro n c
  rw [idsB, idsBL_eq, List.all_eq_true] at c
  exact .agg h (fun i d v a b => ih i d v a b (c _ (List.mem_of_getElem? a)))
 | tup h r ih =>
  intro n c
  rw [idsB, idsBL_eq, List.all_eq_true] at c
  exact .tup h (fun i d v a b => ih i d v a b (c _ (List.mem_of_getElem? a)))
theorem growc_out {s : List Ob} {size id : Nat} {d d' : D} {o : Option Nat} {ob : Ob} (h : growc s size id d = some (d', o, ob)) :
  (∃ fl sz xs, d = .lst fl sz xs ∧ d' = .lst (.tok id 0) size xs ∧ ob = .fam 0 size ∧ (sz = size ∨ xs = []) ∧ ((fl = .tight ∧ o = none) ∨ ∃ i v, fl = .tok i v ∧ o = some i ∧ s.getD i .dead = .fam v size)) ∨
  (∃ i n cs, d = .slc i size n ∧ d' = .slc id size n ∧ o = some i ∧ s.getD i .dead = .box cs ∧ ob = .box (cs.map D.demote)) := by
 unfold growc at h
 split at h
 ·rename_i sz xs
  split at h
  ·rename_i hk
   simp only [Option.some.injEq, Prod.mk.injEq] at h
   obtain ⟨rfl, rfl, rfl⟩ := h
   simp only [okSz, Bool.or_eq_true, Nat.beq_eq, List.isEmpty_iff] at hk
   exact .inl ⟨_, sz, xs, rfl, rfl, rfl, hk, .inl ⟨rfl, rfl⟩⟩
  ·cases h
 ·rename_i i v sz xs
  split at h
  ·rename_i v' sz2 hs
   split at h
   ·rename_i hk
    simp only [Option.some.injEq, Prod.mk.injEq] at h
    obtain ⟨rfl, rfl, rfl⟩ := h
    simp only [okSz, Bool.or_eq_true, Bool.and_eq_true, Nat.beq_eq, List.isEmpty_iff] at hk
    obtain ⟨rfl, rfl, hk⟩ := hk
    exact .inl ⟨_, sz, xs, rfl, rfl, rfl, hk, .inr ⟨i, v', rfl, rfl, hs⟩⟩
   ·cases h
  ·cases h
 ·rename_i i sz n
  split at h
  ·rename_i cs hs
   split at h
   ·rename_i hk
    rw [Nat.beq_eq] at hk
    subst hk
    simp only [Option.some.injEq, Prod.mk.injEq] at h
    obtain ⟨rfl, rfl, rfl⟩ := h
    exact .inr ⟨i, n, cs, rfl, rfl, rfl, hs, rfl⟩
   ·cases h
  ·cases h
 ·cases h
theorem growL_out {t : List D} {s : List Ob} : ∀ {fs : List (Nat × Nat)} {id : Nat} {used : List (Option Nat)} {new : List Ob}, growL t s fs id = some (used, new) →
  (used.length = fs.length ∧ new.length = fs.length) ∧ ∀ (j k size : Nat), fs[j]? = some (k, size) → ∃ d' o ob, growc s size (id + j) (rootD t s k) = some (d', o, ob) ∧ used[j]? = some o ∧ new[j]? = some ob
 | [], id, used, new, h => by
  simp only [growL, Option.some.injEq, Prod.mk.injEq] at h
  obtain ⟨rfl, rfl⟩ := h
  exact ⟨⟨rfl, rfl⟩, fun j k size h => by simp at h⟩
 | (k, size) :: r, id, used, new, h => by
  simp only [growL] at h
  split at h
  ·rename_i d' o ob l obs h1 h2
   simp only [Option.some.injEq, Prod.mk.injEq] at h
   obtain ⟨rfl, rfl⟩ := h
   obtain ⟨k1, k2⟩ := growL_out h2
   refine ⟨by simp [k1.1, k1.2], fun j k' size' hj => ?_⟩
   cases j with
   | zero =>
    simp only [List.getElem?_cons_zero, Option.some.injEq, Prod.mk.injEq] at hj
    obtain ⟨rfl, rfl⟩ := hj
    exact ⟨d', o, ob, h1, rfl, rfl⟩
   | succ j =>
    simp only [List.getElem?_cons_succ] at hj
    obtain ⟨d2, o2, ob2, q1, q2, q3⟩ := k2 j k' size' hj
    exact ⟨d2, o2, ob2, by rw [show id + (j + 1) = id + 1 + j by omega]; exact q1, by simpa using q2, by simpa using q3⟩
  ·cases h
theorem findF_out {i : Nat} : ∀ {fs : List (Nat × Nat)} {id id' size : Nat}, findF i fs id = some (id', size) → ∃ j, id' = id + j ∧ fs[j]? = some (i, size)
 | [], id, id', size, h => by simp [findF] at h
 | (k, sz) :: r, id, id', size, h => by
  simp only [findF] at h
  split at h
  ·rename_i hk
   rw [Nat.beq_eq] at hk
   simp only [Option.some.injEq, Prod.mk.injEq] at h
   obtain ⟨rfl, rfl⟩ := h
   exact ⟨0, rfl, by simp [hk]⟩
  ·obtain ⟨j, h1, h2⟩ := findF_out h
   exact ⟨j + 1, by omega, by simpa using h2⟩
theorem findS_out {i : Nat} {fs : List (Nat × Nat)} {n0 id size : Nat} (h : findS i fs n0 = some (id, size)) : i < cellK ∧ findF i fs n0 = some (id, size) := by
 unfold findS at h
 split at h
 ·cases h
 ·rename_i hb
  refine ⟨?_, h⟩
  rcases Nat.lt_or_ge i cellK with q | q
  ·exact q
  ·rw [Nat.ble_eq_true_of_le q] at hb; cases hb
theorem findC_out {i j : Nat} {fs : List (Nat × Nat)} {n0 id size : Nat} (h : findC i j fs n0 = some (id, size)) : j < 1000 ∧ findF (cellK + i * 1000 + j) fs n0 = some (id, size) := by
 unfold findC at h
 split at h
 ·rename_i hb
  exact ⟨by rw [Nat.blt_eq] at hb; exact hb, h⟩
 ·cases h
theorem slotsc_out {sp : HS} {n0 : Nat} {s : List Ob} : ∀ {t : List D} {i : Nat} {t' : List D}, slotsc sp n0 s i t = some t' →
  t'.length = t.length ∧ ∀ k d d', t[k]? = some d → t'[k]? = some d' → slotc sp n0 s (i + k) d = some d'
 | [], i, t', h => by
  simp only [slotsc, Option.some.injEq] at h
  subst h
  exact ⟨rfl, fun k d d' h => by simp at h⟩
 | d :: r, i, t', h => by
  simp only [slotsc] at h
  split at h
  ·rename_i d1 l h1 h2
   obtain rfl := Option.some.inj h
   obtain ⟨k1, k2⟩ := slotsc_out h2
   refine ⟨by simp [k1], fun k d2 d3 a b => ?_⟩
   cases k with
   | zero => simp at a b; subst a b; exact h1
   | succ k =>
    simp at a b
    rw [show i + (k + 1) = i + 1 + k by omega]
    exact k2 k d2 d3 a b
  ·cases h
theorem cellsc_out {sp : HS} {n0 : Nat} {s : List Ob} {i : Nat} : ∀ {cs : List D} {j : Nat} {cs' : List D}, cellsc sp n0 s i j cs = some cs' →
  cs'.length = cs.length ∧ ∀ (k : Nat) (d d' : D), cs[k]? = some d → cs'[k]? = some d' → (∃ id size o ob, findC i (j + k) sp.fams n0 = some (id, size) ∧ growc s size id d = some (d', o, ob)) ∨ (idsB n0 d = true ∧ d' = d)
 | [], j, cs', h => by
  simp only [cellsc, Option.some.injEq] at h
  subst h
  exact ⟨rfl, fun k d d' h => by simp at h⟩
 | a :: r, j, cs', h => by
  rw [cellsc] at h
  split at h
  ·rename_i d1 l h1 h2
   obtain rfl := Option.some.inj h
   obtain ⟨k1, k2⟩ := cellsc_out h2
   refine ⟨by simp [k1], fun k d d' p q => ?_⟩
   cases k with
   | zero =>
    simp at p q
    subst p q
    split at h1
    ·rename_i id size hf
     split at h1
     ·rename_i d2 o hg
      obtain rfl := Option.some.inj h1
      exact .inl ⟨id, size, o.1, o.2, hf, hg⟩
     ·cases h1
    ·split at h1
     ·rename_i hids
      exact .inr ⟨hids, (Option.some.inj h1).symm⟩
     ·cases h1
   | succ k =>
    simp at p q
    rw [show j + (k + 1) = j + 1 + k by omega]
    exact k2 k d d' p q
  ·cases h
theorem obsc_out {sp : HS} {n0 : Nat} {s0 : List Ob} {used : List (Option Nat)} {new : List Ob} : ∀ {n i : Nat} {s s' : List Ob}, obsc sp n0 s0 used new n i s = some s' →
  ∃ l, s' = l ++ new ∧ l.length = n ∧ ∀ k o, l[k]? = some o → ∃ o0, s[k]? = some o0 ∧ obc sp n0 s0 used (i + k) o0 = some o
 | 0, i, s, s', h => by
  simp only [obsc, Option.some.injEq] at h
  exact ⟨[], by simp [h], rfl, fun k o h => by simp at h⟩
 | n + 1, i, [], s', h => by simp [obsc] at h
 | n + 1, i, o :: r, s', h => by
  simp only [obsc] at h
  split at h
  ·rename_i o' l h1 h2
   obtain rfl := Option.some.inj h
   obtain ⟨l', rfl, k2, k3⟩ := obsc_out h2
   refine ⟨o' :: l', rfl, by simp [k2], fun k o2 hk => ?_⟩
   cases k with
   | zero => simp at hk; subst hk; exact ⟨o, rfl, h1⟩
   | succ k =>
    simp at hk
    obtain ⟨o0, q1, q2⟩ := k3 k o2 hk
    exact ⟨o0, by simpa using q1, by rw [show i + (k + 1) = i + 1 + k by omega]; exact q2⟩
  ·cases h
theorem hasO_iff {i : Nat} : ∀ {l : List (Option Nat)}, hasO i l = true ↔ some i ∈ l
 | [] => by simp [hasO]
 | none :: r => by simp [hasO, hasO_iff]
 | some a :: r => by
  unfold hasO
  split
  ·rename_i h; rw [Nat.beq_eq] at h; subst h; simp
  ·rename_i h
   rw [hasO_iff]
   have : a ≠ i := fun e => by subst e; simp at h
   simp [Ne.symm this]
def placeO (i : Nat) : List (Option Nat) → Nat → Option Nat
  | [], _ => none
  | none :: r, id => placeO i r (id + 1)
  | some a :: r, id => if a = i then some id else placeO i r (id + 1)
theorem placeO_none {i : Nat} : ∀ {l : List (Option Nat)} {id : Nat}, some i ∉ l → placeO i l id = none
 | [], id, _ => rfl
 | none :: r, id, h => by simp only [placeO]; exact placeO_none (by simpa using h)
 | some a :: r, id, h => by
  simp only [List.mem_cons, Option.some.injEq, not_or] at h
  simp only [placeO, if_neg (Ne.symm h.1)]
  exact placeO_none h.2
theorem placeO_at {i : Nat} : ∀ {l : List (Option Nat)} {id j : Nat}, distO l = true → l[j]? = some (some i) → placeO i l id = some (id + j)
 | [], id, j, _, h => by simp at h
 | none :: r, id, j, hd, h => by
  simp only [distO] at hd
  simp only [placeO]
  cases j with
  | zero => simp at h
  | succ j => rw [show id + (j + 1) = id + 1 + j by omega]; exact placeO_at hd (by simpa using h)
 | some a :: r, id, j, hd, h => by
  simp only [distO, Bool.and_eq_true, Bool.not_eq_true'] at hd
  simp only [placeO]
  cases j with
  | zero => simp at h; simp [h]
  | succ j =>
   have hm : some i ∈ r := List.mem_of_getElem? (by simpa using h)
   have : a ≠ i := fun e => by subst e; rw [hasO_iff.2 hm] at hd; simp at hd
   rw [if_neg this, show id + (j + 1) = id + 1 + j by omega]
   exact placeO_at hd.2 (by simpa using h)
def headOK (sp : HS) (t : List D) (s : List Ob) : Prop := ∀ cs ∈ headBs sp t s, ∀ c ∈ cs, c.clean = true
theorem headB1_mem {s : List Ob} {i : Nat} {cs : List D} (h : s.getD i .dead = .box cs) : ∀ {l : List Nat}, memN (cellK + i) l = true → cs ∈ headB1 s l
 | [], h1 => by simp [memN] at h1
 | o :: r, h1 => by
  rw [memN_iff] at h1
  rcases List.mem_cons.1 h1 with e | e
  ·rw [headB1, ← e, show Nat.ble cellK (cellK + i) = true by rw [Nat.ble_eq]; omega]
   simp only []
   rw [show cellK + i - cellK = i by omega, boxAt, h]
   simp
  ·rw [headB1]
   split
   ·exact List.mem_append_right _ (headB1_mem h (memN_iff.2 e))
   ·exact headB1_mem h (memN_iff.2 e)
theorem headB2_mem {t : List D} {s : List Ob} {k size i sz n : Nat} {cs : List D} (hr : rootD t s k = .slc i sz n) (h : s.getD i .dead = .box cs) : ∀ {l : List (Nat × Nat)} {j : Nat}, l[j]? = some (k, size) → cs ∈ headB2 t s l
 | [], j, h1 => by simp at h1
 | (k', z) :: r, j, h1 => by
  rw [headB2]
  cases j with
  | zero =>
   simp only [List.getElem?_cons_zero, Option.some.injEq, Prod.mk.injEq] at h1
   obtain ⟨rfl, rfl⟩ := h1
   rw [hr]
   simp only [boxAt, h]
   simp
  | succ j => exact List.mem_append_right _ (headB2_mem hr h (by simpa using h1))
theorem obc_out {sp : HS} {n0 : Nat} {s : List Ob} {used : List (Option Nat)} {i : Nat} {o0 o : Ob} (h : obc sp n0 s used i o0 = some o) (hd : o ≠ .dead) : some i ∉ used ∧
  ((∃ cs, o0 = .box cs ∧ o = .box (cs.map D.demote) ∧ memN (cellK + i) sp.obs = true) ∨ (∃ cs, o0 = .box cs ∧ o = .box cs ∧ idsBL n0 cs = true) ∨ (∃ cs cs', o0 = .box cs ∧ o = .box cs' ∧ cellsc sp n0 s i 0 cs = some cs') ∨
   (∃ k t ps ag bd, o0 = .lp k t ps ag bd ∧ o = .lp k t ps ag bd ∧ idsBL n0 t = true) ∨ (o = o0 ∧ (∀ cs, o ≠ .box cs) ∧ ∀ k t ps ag bd, o ≠ .lp k t ps ag bd)) := by
 have nu : ∀ {b : Bool}, (b && !hasO i used) = true → some i ∉ used := fun {b} hk hm => by
  simp only [Bool.and_eq_true, Bool.not_eq_true'] at hk
  rw [hasO_iff.2 hm] at hk
  simp at hk
 unfold obc at h
 split at h
 ·rename_i hk
  refine ⟨nu hk, ?_⟩
  split at h
  ·rename_i cs
   simp only [Bool.and_eq_true] at hk
   exact .inl ⟨cs, rfl, (Option.some.inj h).symm, hk.1⟩
  ·cases h
 ·split at h
  ·exact absurd (Option.some.inj h).symm hd
  ·rename_i hk
   refine ⟨nu hk, ?_⟩
   split at h
   ·rename_i cs
    split at h
    ·rename_i cs' hc
     exact .inr (.inr (.inl ⟨cs, cs', rfl, (Option.some.inj h).symm, hc⟩))
    ·cases h
   ·rename_i k t ps ag bd
    split at h
    ·rename_i hids
     exact .inr (.inr (.inr (.inl ⟨k, t, ps, ag, bd, rfl, (Option.some.inj h).symm, hids⟩)))
    ·cases h
   ·rename_i h1 h2
    obtain rfl := Option.some.inj h
    exact .inr (.inr (.inr (.inr ⟨rfl, h1, h2⟩)))
theorem headc_out {sp : HS} {n0 : Nat} {t t' : List D} {s s' : List Ob} (h : headc sp n0 t s = some (t', s')) (hcl : headOK sp t s) :
  (n0 ≤ s'.length ∧ s'.length = n0 + sp.fams.length) ∧ ∀ {w0 : Base} {M : MM} {own : Nat → Option Nat} {w : World} {tmps : Array Value}, n0 ≤ s.length → WRel w0 M own (stAt s) w → M.upto s.length → RepL M t tmps →
   ∃ M' own', WRel w0 M' own' (stAt s') w ∧ M'.upto s'.length ∧ (M.cut n0).Le M' ∧ RepL M' t' tmps := by
 unfold headc at h
 split at h
 ·rename_i used new hu
  split at h
  ·rename_i hdist
   split at h
   ·rename_i t1 s1 ht hs
    simp only [Option.some.injEq, Prod.mk.injEq] at h
    obtain ⟨rfl, rfl⟩ := h
    obtain ⟨l, rfl, hl, hob⟩ := obsc_out hs
    obtain ⟨ht1, hslot⟩ := slotsc_out ht
    obtain ⟨⟨hu1, hu2⟩, hgrow⟩ := growL_out hu
    have hlen : (l ++ new).length = n0 + sp.fams.length := by simp [hl, hu2]
    refine ⟨⟨by omega, hlen⟩, ?_⟩
    intro w0 M own w tmps hn hw hup hrep
    let rv : Nat → Value := fun k => match Nat.ble cellK k with
     | false => tmps.getD k undef
     | true => match M.box ((k - cellK) / 1000) with
      | some b => (w.cell? ⟨b, (k - cellK) % 1000, none⟩).getD undef
      | none => undef
    have hrv : ∀ k, rootD t s k ≠ .undef → Rep M (rootD t s k) (rv k) := by
     intro k hne
     cases hb : Nat.ble cellK k with
     | false =>
      simp only [rootD, rv, hb]
      exact repL_getD hrep k
     | true =>
      simp only [rootD, rv, hb] at hne ⊢
      split at hne
      ·rename_i cs hcs
       obtain ⟨b, vs, ty, kb⟩ := hw.box _ cs hcs
       have hc : ∃ d, cs[(k - cellK) % 1000]? = some d := by
        cases e : cs[(k - cellK) % 1000]? with
        | none => rw [List.getD_eq_getElem?_getD, e] at hne; exact absurd rfl hne
        | some d => exact ⟨d, rfl⟩
       obtain ⟨d, hd⟩ := hc
       obtain ⟨u, h1, h2⟩ := repLe_get kb.len kb.rep hd
       rw [kb.box, List.getD_eq_getElem?_getD, hd]
       simp only [World.cell?, kb.blk, h1]
       exact h2
      ·exact absurd rfl hne
    let bxN : Nat → Option Nat := fun j => match sp.fams[j]? with
     | some (k, _) => (match rootD t s k with | .slc i _ _ => M.box i | _ => none)
     | none => none
    let hdr : Nat → Nat → Option Value := fun j v => match sp.fams[j]? with
     | some (k, size) => (match rootD t s k with | .slc _ _ _ => (if v = size then some (rv k) else none) | _ => (if v = 0 then some (rv k) else none))
     | none => none
    let M' : MM := ⟨M.cell, fun i => if i < n0 then M.box i else bxN (i - n0), fun i v => if i < n0 then M.hist i v else hdr (i - n0) v, M.mrk⟩
    let ren : Nat → Option Nat := fun i => match placeO i used n0 with | some k => some k | none => if i < n0 then some i else none
    let own' : Nat → Option Nat := fun b => (own b).bind ren
    have hle : (M.cut n0).Le M' := by
     refine ⟨fun _ _ _ h => h, fun i b k => ?_, fun i v b k => ?_, fun _ h => h⟩
     ·simp only [MM.cut] at k
      split at k
      ·rename_i q; simp only [M', if_pos q]; exact k
      ·cases k
     ·simp only [MM.cut] at k
      split at k
      ·rename_i q; simp only [M', if_pos q]; exact k
      ·cases k
    have root : ∀ (j k size : Nat), sp.fams[j]? = some (k, size) →
      (∃ fl sz xs a len cap o, rootD t s k = .lst fl sz xs ∧ rv k = .slice a len cap ∧ used[j]? = some o ∧ new[j]? = some (.fam 0 size) ∧ (sz = size ∨ xs = []) ∧ Rep M (.lst fl sz xs) (.slice a len cap) ∧ ((fl = .tight ∧ o = none) ∨ ∃ i v, fl = .tok i v ∧ o = some i ∧ s.getD i .dead = .fam v size)) ∨
      (∃ i n cs b cap, rootD t s k = .slc i size n ∧ rv k = .slice (some ⟨b, 0, none⟩) n cap ∧ used[j]? = some (some i) ∧ new[j]? = some (.box (cs.map D.demote)) ∧ s.getD i .dead = .box cs ∧ M.box i = some b ∧ M.hist i size = some (.slice (some ⟨b, 0, none⟩) n cap) ∧ n ≤ cap ∧ ∀ c ∈ cs, c.clean = true) := by
     intro j k size hj
     obtain ⟨d', o, ob, h1, h2, h3⟩ := hgrow j k size hj
     rcases growc_out h1 with ⟨fl, sz, xs, q1, q2, rfl, q3, q4⟩ | ⟨i, n, cs, q1, q2, rfl, q3, rfl⟩
     ·have hr := hrv k (by rw [q1]; simp)
      rw [q1] at hr
      generalize hv : rv k = v at hr
      cases hr with
      | lst b off vs hl hcap ha hsz hc hr hst ho =>
       exact .inl ⟨fl, sz, xs, _, _, _, o, q1, rfl, h2, h3, q3, .lst b off vs hl hcap ha hsz hc hr hst ho, q4⟩
     ·have hr := hrv k (by rw [q1]; simp)
      rw [q1] at hr
      generalize hv : rv k = v at hr
      cases hr with
      | slc hb hh hc =>
       exact .inr ⟨i, n, cs, _, _, q1, rfl, h2, h3, q3, hb, hh, hc, hcl cs (List.mem_append_right _ (headB2_mem q1 q3 hj))⟩
    have newAt : ∀ {i : Nat} {o : Ob}, stAt (l ++ new) i = o → o ≠ .dead → (i < n0 ∧ l[i]? = some o) ∨ (n0 ≤ i ∧ ∃ k size, sp.fams[i - n0]? = some (k, size) ∧ new[i - n0]? = some o) := by
     intro i o hi hne
     unfold stAt at hi
     rcases Nat.lt_or_ge i l.length with hlt | hge
     ·rw [List.getD_eq_getElem?_getD, List.getElem?_append_left hlt] at hi
      rw [List.getElem?_eq_getElem hlt] at hi ⊢
      exact .inl ⟨by omega, by simpa using hi⟩
     ·rw [List.getD_eq_getElem?_getD, List.getElem?_append_right hge] at hi
      rw [hl] at hi hge
      cases e : new[i - n0]? with
      | none => rw [e] at hi; exact absurd hi.symm hne
      | some x =>
       rw [e] at hi
       simp only [Option.getD_some] at hi
       subst hi
       have hlt : i - n0 < sp.fams.length := by
        rw [← hu2]
        rcases Nat.lt_or_ge (i - n0) new.length with q | q
        ·exact q
        ·rw [List.getElem?_eq_none q] at e; cases e
       exact .inr ⟨hge, sp.fams[i - n0].1, sp.fams[i - n0].2, by simp [hlt], rfl⟩
    have old : ∀ {i : Nat} {o0 : Ob}, s[i]? = some o0 → stAt s i = o0 := fun {i o0} h1 => by unfold stAt; rw [List.getD_eq_getElem?_getD, h1]; rfl
    have tokRep : ∀ {j k size : Nat} {fl : Own} {sz : Nat} {xs : List D}, sp.fams[j]? = some (k, size) → rootD t s k = .lst fl sz xs → Rep M (.lst fl sz xs) (rv k) → (sz = size ∨ xs = []) → Rep M' (.lst (.tok (n0 + j) 0) size xs) (rv k) := by
     intro j k size fl sz xs hj q1 hr q3
     refine Rep.resize (sz := sz) ?_ q3
     generalize hv : rv k = v at hr
     cases hr with
     | lst b off vs hl2 hcap ha hsz hc hr hst ho =>
      refine .lst b off vs hl2 hcap ha hsz hc hr hst ?_
      simp only [MM.owns, M', if_neg (show ¬ n0 + j < n0 by omega), hdr, show n0 + j - n0 = j by omega, hj, q1, if_true, hv]
    have slcRep : ∀ {j k size i n b cap : Nat}, sp.fams[j]? = some (k, size) → rootD t s k = .slc i size n → rv k = .slice (some ⟨b, 0, none⟩) n cap → M.box i = some b → n ≤ cap → Rep M' (.slc (n0 + j) size n) (rv k) := by
     intro j k size i n b cap hj q1 hv hb hc
     rw [hv]
     refine .slc (b := b) ?_ ?_ hc
     ·simp only [M', if_neg (show ¬ n0 + j < n0 by omega), bxN, show n0 + j - n0 = j by omega, hj, q1]; exact hb
     ·simp only [M', if_neg (show ¬ n0 + j < n0 by omega), hdr, show n0 + j - n0 = j by omega, hj, q1, if_true, hv]
    refine ⟨M', own', ⟨hw.below, hw.cells, hw.old, ?_, ?_, ?_, ?_, ?_, hw.mrk⟩, ?_, hle, ?_⟩
    ·intro b i k
     simp only [own'] at k
     cases e : own b with
     | none => rw [e] at k; cases k
     | some i' => exact hw.owned b i' e
    ·
     intro i cs hi
     rcases newAt hi (by simp) with ⟨hlt, hli⟩ | ⟨hge, k, size, hj, hnew⟩
     ·obtain ⟨o0, h1, h2⟩ := hob i _ hli
      rw [Nat.zero_add] at h2
      obtain ⟨hnu, hcase⟩ := obc_out h2 (by simp)
      have kept : ∀ {cs0 : List D}, o0 = .box cs0 → cs.length = cs0.length → (∀ (b : Nat) (vs : Array Value) (ty : TypeId), BoxOK w0 M own i cs0 w b vs ty → ∀ (j : Nat) (d : D) (v : Value), cs[j]? = some d → vs[j]? = some v → Rep M' d v) → ∃ b vs ty, BoxOK w0 M' own' i cs w b vs ty := by
       intro cs0 e hle2 hreps
       subst e
       obtain ⟨b, vs, ty, k⟩ := hw.box i cs0 (old h1)
       refine ⟨b, vs, ty, by simp only [M', if_pos hlt]; exact k.box, k.base, ?_, k.none, k.blk, by rw [hle2]; exact k.len, hreps b vs ty k, fun sz a len cap q => k.room sz a len cap (by simpa only [M', if_pos hlt] using q)⟩
       simp only [own', k.own, Option.bind_some, ren, placeO_none hnu, if_pos hlt]
      rcases hcase with ⟨cs0, rfl, e, hm⟩ | ⟨cs0, rfl, e, hids⟩ | ⟨cs0, cs', rfl, e, hc⟩ | ⟨_, _, _, _, _, _, e, _⟩ | ⟨rfl, hnb, _⟩
      ·obtain rfl := Ob.box.inj e
       have hclean := hcl cs0 (List.mem_append_left _ (headB1_mem (old h1) hm))
       refine kept rfl (by simp) fun b vs ty k j d v p q => ?_
       rw [List.getElem?_map, Option.map_eq_some_iff] at p
       obtain ⟨d0, p0, rfl⟩ := p
       exact ((k.rep j d0 v p0 q).toBare (hclean _ (List.mem_of_getElem? p0))).mono (MM.bare_le M')
      ·obtain rfl := Ob.box.inj e
       rw [idsBL_eq, List.all_eq_true] at hids
       exact kept rfl rfl fun b vs ty k j d v p q => ((k.rep j d v p q).cut (hids _ (List.mem_of_getElem? p))).mono hle
      ·obtain rfl := Ob.box.inj e
       obtain ⟨c1, c2⟩ := cellsc_out hc
       refine kept rfl c1 fun b vs ty k j d v p q => ?_
       have hj0 : j < cs0.length := by
        rw [← c1]
        rcases Nat.lt_or_ge j cs.length with h | h
        ·exact h
        ·rw [List.getElem?_eq_none h] at p; cases p
       have hd0 : cs0[j]? = some cs0[j] := by simp [hj0]
       rcases c2 j _ d hd0 p with ⟨id, size, o, ob, hf, hg⟩ | ⟨hids, rfl⟩
       ·rw [Nat.zero_add] at hf
        obtain ⟨hj1, hf⟩ := findC_out hf
        obtain ⟨jj, rfl, hjj⟩ := findF_out hf
        obtain ⟨d2, o2, ob2, hg2, hu3, hn3⟩ := hgrow jj _ size hjj
        have e1 : (cellK + i * 1000 + j - cellK) / 1000 = i := by omega
        have e2 : (cellK + i * 1000 + j - cellK) % 1000 = j := by omega
        have hbl : Nat.ble cellK (cellK + i * 1000 + j) = true := by rw [Nat.ble_eq]; omega
        have hroot : rootD t s (cellK + i * 1000 + j) = cs0[j] := by
         simp only [rootD, hbl, e1, e2]
         rw [show s.getD i .dead = .box cs0 from old h1]
         simp only []
         rw [List.getD_eq_getElem?_getD, hd0]
         rfl
        have hval : rv (cellK + i * 1000 + j) = v := by
         simp only [rv, hbl, e1, e2]
         rw [k.box]
         simp only [World.cell?, k.blk, q]
         rfl
        rcases growc_out hg with ⟨fl, sz, xs, q1, rfl, _, q3, _⟩ | ⟨i', n, cs', q1, rfl, _, q3, _⟩
        ·have hr := tokRep hjj (hroot.trans q1) (by rw [hval, ← q1]; exact k.rep j _ v hd0 q) q3
         rw [hval] at hr
         exact hr
        ·rcases root jj _ size hjj with ⟨_, _, _, _, _, _, _, r1, _⟩ | ⟨i2, n2, cs2, b2, cap2, r1, r2, _, _, _, r3, _, r4, _⟩
         ·rw [hroot, q1] at r1; cases r1
         ·rw [hroot, q1] at r1
          cases r1
          have hr := slcRep hjj (hroot.trans q1) r2 r3 r4
          rw [hval] at hr
          exact hr
       ·exact ((k.rep j _ v hd0 q).cut hids).mono hle
      ·cases e
      ·exact absurd rfl (hnb cs)
     ·rcases root _ k size hj with ⟨_, _, _, _, _, _, _, _, _, _, r, _⟩ | ⟨i', n, cs0, b, cap, q1, q2, q3, q4, q5, q6, q7, q8, q9⟩
      ·rw [hnew] at r; cases r
      ·rw [hnew] at q4
       obtain rfl := Ob.box.inj (Option.some.inj q4)
       obtain ⟨b2, vs, ty, kb⟩ := hw.box i' cs0 q5
       obtain rfl : b2 = b := by have := kb.box; rw [q6] at this; exact (Option.some.inj this).symm
       have hi0 : ¬ i < n0 := by omega
       refine ⟨b2, vs, ty, ?_, kb.base, ?_, kb.none, kb.blk, by simpa using kb.len, fun j d v p q => ?_, fun sz a len cap' q => ?_⟩
       ·simp only [M', if_neg hi0, bxN, hj, q1]; exact q6
       ·simp only [own', kb.own, Option.bind_some, ren, placeO_at hdist q3]
        congr 1
        omega
       ·rw [List.getElem?_map, Option.map_eq_some_iff] at p
        obtain ⟨d0, p0, rfl⟩ := p
        exact ((kb.rep j d0 v p0 q).toBare (q9 _ (List.mem_of_getElem? p0))).mono (MM.bare_le M')
       ·simp only [M', if_neg hi0, hdr, hj, q1] at q
        split at q
        ·rename_i e
         subst e
         rw [q2] at q
         obtain ⟨rfl, rfl, rfl⟩ := Value.slice.inj (Option.some.inj q)
         exact kb.room _ _ _ _ q7
        ·cases q
    ·
     intro i ver sz hi
     rcases newAt hi (by simp) with ⟨hlt, hli⟩ | ⟨hge, k, size, hj, hnew⟩
     ·obtain ⟨o0, h1, h2⟩ := hob i _ hli
      rw [Nat.zero_add] at h2
      obtain ⟨hnu, hcase⟩ := obc_out h2 (by simp)
      have ho : o0 = .fam ver sz := by
       rcases hcase with ⟨_, _, e, _⟩ | ⟨_, _, e, _⟩ | ⟨_, _, _, e, _⟩ | ⟨_, _, _, _, _, _, e, _⟩ | ⟨rfl, _⟩
       ·cases e
       ·cases e
       ·cases e
       ·cases e
       ·rfl
      subst ho
      obtain ⟨a, len, cap, k⟩ := hw.fam i ver sz (old h1)
      refine ⟨a, len, cap, by simp only [M', if_pos hlt]; exact k.hist, fun v hv => by simp only [M', if_pos hlt]; exact k.last v hv, ?_⟩
      rcases k.room with q | ⟨b, vs, ty, fz, ha, r⟩
      ·exact .inl q
      ·refine .inr ⟨b, vs, ty, fz, ha, r.base, ?_, r.blk, r.fz, r.cap, r.none⟩
       simp only [own', r.own, Option.bind_some, ren, placeO_none hnu, if_pos hlt]
     ·have hnlt : ¬ i < n0 := by omega
      rcases root _ k size hj with ⟨fl, sz0, xs, a, len, cap, o, q1, q2, q3, q4, q5, q6, q7⟩ | ⟨_, _, _, _, _, _, _, _, r, _⟩
      ·rw [hnew] at q4
       obtain ⟨rfl, rfl⟩ := Ob.fam.inj (Option.some.inj q4)
       refine ⟨a, len, cap, ?_, fun v hv => ?_, ?_⟩
       ·simp only [M', if_neg hnlt, hdr, hj, q1, if_true, q2]
       ·simp only [M', if_neg hnlt, hdr, hj, q1, if_neg (show ¬ v = 0 by omega)]
       ·cases q6 with
        | lst b off vs hl2 hcap ha hsz hc hr hst ho =>
         rcases q7 with ⟨rfl, rfl⟩ | ⟨i', v, rfl, rfl, hs'⟩
         ·exact .inl ho
         ·obtain ⟨a', len', cap', k2⟩ := hw.fam i' v _ hs'
          have : M.hist i' v = some _ := ho
          rw [k2.hist] at this
          obtain ⟨rfl, rfl, rfl⟩ := Value.slice.inj (Option.some.inj this)
          rcases k2.room with q | ⟨b, vs, ty, fz, ha, r⟩
          ·exact .inl q
          ·refine .inr ⟨b, vs, ty, fz, ha, r.base, ?_, r.blk, r.fz, r.cap, r.none⟩
           simp only [own', r.own, Option.bind_some, ren, placeO_at hdist q3]
           congr 1
           omega
      ·rw [hnew] at r; cases r
    ·
     intro i kk es hi
     rcases newAt hi (by simp) with ⟨hlt, hli⟩ | ⟨hge, k, size, hj, hnew⟩
     ·obtain ⟨o0, h1, h2⟩ := hob i _ hli
      rw [Nat.zero_add] at h2
      obtain ⟨hnu, hcase⟩ := obc_out h2 (by simp)
      have ho : o0 = .mp kk es := by
       rcases hcase with ⟨_, _, e, _⟩ | ⟨_, _, e, _⟩ | ⟨_, _, _, e, _⟩ | ⟨_, _, _, _, _, _, e, _⟩ | ⟨rfl, _⟩
       ·cases e
       ·cases e
       ·cases e
       ·cases e
       ·rfl
      subst ho
      obtain ⟨b, ents, clock, k⟩ := hw.mp i kk es (old h1)
      refine ⟨b, ents, clock, by simp only [M', if_pos hlt]; exact k.box, k.base, ?_, k.none, k.blk, k.fits⟩
      simp only [own', k.own, Option.bind_some, ren, placeO_none hnu, if_pos hlt]
     ·rcases root _ k size hj with ⟨_, _, _, _, _, _, _, _, _, _, r, _⟩ | ⟨_, _, _, _, _, _, _, _, r, _⟩ <;> rw [hnew] at r <;> cases r
    ·
     intro i kk tt ps ag bd hi
     rcases newAt hi (by simp) with ⟨hlt, hli⟩ | ⟨hge, k, size, hj, hnew⟩
     ·obtain ⟨o0, h1, h2⟩ := hob i _ hli
      rw [Nat.zero_add] at h2
      obtain ⟨hnu, hcase⟩ := obc_out h2 (by simp)
      have ho : o0 = .lp kk tt ps ag bd ∧ idsBL n0 tt = true := by
       rcases hcase with ⟨_, _, e, _⟩ | ⟨_, _, e, _⟩ | ⟨_, _, _, e, _⟩ | ⟨_, _, _, _, _, rfl, e, hids⟩ | ⟨_, _, hnl⟩
       ·cases e
       ·cases e
       ·cases e
       ·cases e; exact ⟨rfl, hids⟩
       ·exact absurd rfl (hnl _ _ _ _ _)
      obtain ⟨rfl, hids⟩ := ho
      rw [idsBL_eq, List.all_eq_true] at hids
      obtain ⟨b, r, k⟩ := hw.lp i kk tt ps ag bd (old h1)
      refine ⟨b, r, by simp only [M', if_pos hlt]; exact k.box, k.base, ?_, k.blk, k.st, k.pd, ⟨k.tm.1, fun j d v p q => ((k.tm.2 j d v p q).cut (hids _ (List.mem_of_getElem? p))).mono hle⟩, k.ps, k.ag, k.bd⟩
      simp only [own', k.own, Option.bind_some, ren, placeO_none hnu, if_pos hlt]
     ·rcases root _ k size hj with ⟨_, _, _, _, _, _, _, _, _, _, r, _⟩ | ⟨_, _, _, _, _, _, _, _, r, _⟩ <;> rw [hnew] at r <;> cases r
    ·
     refine ⟨fun id hid => ?_, fun id v hid => ?_⟩
     ·simp only [M', if_neg (show ¬ id < n0 by omega), bxN]
      rw [List.getElem?_eq_none (by omega)]
     ·simp only [M', if_neg (show ¬ id < n0 by omega), hdr]
      rw [List.getElem?_eq_none (by omega)]
    ·
     refine ⟨by rw [ht1]; exact hrep.1, fun i d' v p q => ?_⟩
     have hit : i < t.length := by
      rcases Nat.lt_or_ge i t.length with h | h
      ·exact h
      ·rw [List.getElem?_eq_none (by omega)] at p; cases p
     have hd : t[i]? = some t[i] := by simp [hit]
     have hsl := hslot i _ d' hd p
     rw [Nat.zero_add] at hsl
     unfold slotc at hsl
     split at hsl
     ·rename_i id size hf
      split at hsl
      ·rename_i d2 o hg
       obtain rfl := Option.some.inj hsl
       obtain ⟨hbi, hf⟩ := findS_out hf
       obtain ⟨j, rfl, hj⟩ := findF_out hf
       ·have hbf : Nat.ble cellK i = false := by
         cases e : Nat.ble cellK i with
         | false => rfl
         | true => rw [Nat.ble_eq] at e; omega
        have hroot : rootD t s i = t[i] := by
         simp only [rootD, hbf]
         rw [List.getD_eq_getElem?_getD, hd]
         rfl
        have hval : rv i = v := by
         simp only [rv, hbf]
         rw [Array.getD_eq_getD_getElem?, q]
         rfl
        rcases growc_out hg with ⟨fl, sz, xs, q1, rfl, _, q3, _⟩ | ⟨i', n, cs', q1, rfl, _, q3, _⟩
        ·have hr := tokRep hj (hroot.trans q1) (by rw [hval, ← q1]; exact hrep.2 i _ v hd q) q3
         rw [hval] at hr
         exact hr
        ·rcases root j _ size hj with ⟨_, _, _, _, _, _, _, r1, _⟩ | ⟨i2, n2, cs2, b2, cap2, r1, r2, _, _, _, r3, _, r4, _⟩
         ·rw [hroot, q1] at r1; cases r1
         ·rw [hroot, q1] at r1
          cases r1
          have hr := slcRep hj (hroot.trans q1) r2 r3 r4
          rw [hval] at hr
          exact hr
      ·cases hsl
     ·split at hsl
      ·split at hsl
       ·rename_i hids
        obtain rfl := Option.some.inj hsl
        exact ((hrep.2 i _ v hd q).cut hids).mono hle
       ·cases hsl
      ·obtain rfl := Option.some.inj hsl
       exact .undef v
   ·cases h
  ·cases h
 ·cases h
section
variable {P : Program}
inductive Rounds (P : Program) (c : Code) (n0 : Nat) : List D → List Ob → Ex → List D → List Ob → Prop
  | out {t : List D} {s : List Ob} {ex : Ex} {t1 t' : List D} {s1 s' : List Ob} (sp : HS) (h : CodeRun P c t s ex t1 s1) (hx : ex ≠ .norm) (hh : headc sp n0 t1 s1 = some (t', s')) (hcl : headOK sp t1 s1) : Rounds P c n0 t s ex t' s'
  | again {t : List D} {s : List Ob} {t1 t2 : List D} {s1 s2 : List Ob} {ex : Ex} {t' : List D} {s' : List Ob} (sp : HS) (h : CodeRun P c t s .norm t1 s1) (hh : headc sp n0 t1 s1 = some (t2, s2)) (hcl : headOK sp t1 s1) (k : Rounds P c n0 t2 s2 ex t' s') : Rounds P c n0 t s ex t' s'
theorem Rounds.depth {c : Code} {n0 : Nat} {t : List D} {s : List Ob} {ex : Ex} {t' : List D} {s' : List Ob} (h : Rounds P c n0 t s ex t' s') : n0 ≤ s.length → n0 ≤ s'.length ∧
  ∃ n, ∀ (rr : Option Nat) (K : Nat → Prop) (w0 : Base) (M : MM) (own : Nat → Option Nat) (w : World) (a : Act) (L : MM), L.Le (M.cut n0) → WRel w0 M own (stAt s) w → M.upto s.length → RepL M t a.tmps → DefsOK K M a.defers →
   Code.roundsIn (FW rr) 0 P c (fun e a' w' => ex.is e ∧ ∃ M' own', WRel w0 M' own' (stAt s') w' ∧ M'.upto s'.length ∧ L.Le M' ∧ RepL M' t' a'.tmps ∧ DefsOK K M' a'.defers) n a w := by
 induction h with
 | out sp h hx hh hcl =>
  intro hn
  obtain ⟨hl, hhead⟩ := headc_out hh hcl
  refine ⟨hl.1, 1, fun rr K w0 M own w a L le hw hu ht hd => ?_⟩
  rw [roundsIn_succ]
  refine wpIn_mono (h.run rr (fun e => by cases e) K w0 M own w a hw hu ht hd) ?_
  rintro e a' w' ⟨h0, M1, own1, q1, q2, q3, q4, q5⟩
  obtain ⟨M2, own2, r1, r2, r3, r4⟩ := hhead (Nat.le_trans hn h.len) q1 q2 q4
  have fin : ∃ M' own', WRel w0 M' own' (stAt _) w' ∧ M'.upto _ ∧ L.Le M' ∧ RepL M' _ a'.tmps ∧ DefsOK K M' a'.defers := ⟨M2, own2, r1, r2, (le.trans (MM.cut_mono q3 n0)).trans r3, r4, q5.mono r3.mrk⟩
  rename_i ex _ _ _ _
  cases ex with
  | norm => exact absurd rfl hx
  | exit i => cases e <;> simp only [Ex.is] at h0; exact ⟨h0, fin⟩
  | ret => cases e <;> simp only [Ex.is] at h0; exact ⟨h0, fin⟩
 | again sp h hh hcl k ih =>
  intro hn
  obtain ⟨hl, hhead⟩ := headc_out hh hcl
  obtain ⟨i1, n, i2⟩ := ih hl.1
  refine ⟨i1, n + 1, fun rr K w0 M own w a L le hw hu ht hd => ?_⟩
  rw [roundsIn_succ]
  refine wpIn_mono (h.run rr (fun e => by cases e) K w0 M own w a hw hu ht hd) ?_
  rintro e a' w' ⟨h0, M1, own1, q1, q2, q3, q4, q5⟩
  obtain ⟨M2, own2, r1, r2, r3, r4⟩ := hhead (Nat.le_trans hn h.len) q1 q2 q4
  cases e <;> simp only [Ex.is] at h0
  refine i2 rr K w0 M2 own2 w' a' L ?_ r1 r2 r4 (q5.mono r3.mrk)
  have := MM.cut_mono r3 n0
  rw [MM.cut_cut] at this
  exact (le.trans (MM.cut_mono q3 n0)).trans this
theorem LoopRun.of_rounds {c : Code} {n0 : Nat} {t : List D} {s : List Ob} {ex : Ex} {t' : List D} {s' : List Ob} (hn : n0 ≤ s.length) (h : Rounds P c n0 t s ex t' s') : LoopRun P n0 (.loop c) t s ex t' s' := by
 obtain ⟨h1, n, h2⟩ := h.depth hn
 exact ⟨fun rr K w0 M own w a hw hu ht hd => wpIn_loop_rounds n (h2 rr K w0 M own w a (M.cut n0) (.refl _) hw hu ht hd), h1⟩
theorem clsc_out {ρ' : Type} {r : ρ'} : ∀ {l : List (List D)} {z : Z P} {k : Z P → Option ρ'}, clsc l z k = some r → ∃ z', k z' = some r ∧ (z'.c → z.c ∧ ∀ cs ∈ l, ∀ c ∈ cs, c.clean = true)
 | [], z, k, h => ⟨z, h, fun q => ⟨q, fun _ h => by simp at h⟩⟩
 | cs :: l, z, k, h => by
  rw [clsc] at h
  split at h
  ·rename_i cs' hc o _
   obtain ⟨z', h1, h2⟩ := clsc_out h
   refine ⟨z', h1, fun q => ⟨(h2 q).1.2, fun x hx => ?_⟩⟩
   rcases List.mem_cons.1 hx with rfl | hx
   ·exact (h2 q).1.1 ▸ hc
   ·exact (h2 q).2 x hx
  ·cases h
theorem CodeRunR.of_head {rd : Bool} {c : Code} {sp : HS} {t t1 : List D} {s s1 : List Ob} {ex : Ex} {t2 : List D} {s2 : List Ob} (h : LoopRun P s.length c t1 s1 ex t2 s2) (hh : headc sp s.length t s = some (t1, s1)) (hcl : headOK sp t s) : CodeRunR P rd c t s ex t2 s2 := by
 obtain ⟨hl, hhead⟩ := headc_out hh hcl
 refine ⟨fun rr _ K w0 M own w a hw hu ht hd => ?_, h.len⟩
 obtain ⟨M2, own2, r1, r2, r3, r4⟩ := hhead (Nat.le_refl _) hw hu ht
 refine wpIn_mono (h.run rr K w0 M2 own2 w a r1 r2 r4 (hd.mono r3.mrk)) ?_
 rintro e a' w' ⟨h0, M', own', q1, q2, q3, q4, q5⟩
 have := MM.cut_mono r3 s.length
 rw [MM.cut_cut] at this
 exact ⟨h0, M', own', q1, q2, ((MM.le_cut hu).trans this).trans q3, q4, q5⟩
inductive Rounds0 (P : Program) (rd : Bool) (c : Code) : List D → List Ob → Ex → List D → List Ob → Prop
  | out {t : List D} {s : List Ob} {ex : Ex} {t1 : List D} {s1 : List Ob} (h : CodeRunR P rd c t s ex t1 s1) (hx : ex ≠ .norm) : Rounds0 P rd c t s ex t1 s1
  | again {t : List D} {s : List Ob} {t1 : List D} {s1 : List Ob} {ex : Ex} {t' : List D} {s' : List Ob} (h : CodeRunR P rd c t s .norm t1 s1) (k : Rounds0 P rd c t1 s1 ex t' s') : Rounds0 P rd c t s ex t' s'
theorem Rounds0.depth {rd : Bool} {c : Code} {t : List D} {s : List Ob} {ex : Ex} {t' : List D} {s' : List Ob} (h : Rounds0 P rd c t s ex t' s') : s.length ≤ s'.length ∧
  ∃ n, ∀ (rr : Option Nat) (_ : rd = false → rr = none) (K : Nat → Prop) (w0 : Base) (M : MM) (own : Nat → Option Nat) (w : World) (a : Act) (L : MM), L.Le M → WRel w0 M own (stAt s) w → M.upto s.length → RepL M t a.tmps → DefsOK K M a.defers →
   Code.roundsIn (FW rr) 0 P c (fun e a' w' => ex.is e ∧ ∃ M' own', WRel w0 M' own' (stAt s') w' ∧ M'.upto s'.length ∧ L.Le M' ∧ RepL M' t' a'.tmps ∧ DefsOK K M' a'.defers) n a w := by
 induction h with
 | out h hx =>
  refine ⟨h.len, 1, fun rr hrd K w0 M own w a L le hw hu ht hd => ?_⟩
  rw [roundsIn_succ]
  refine wpIn_mono (h.run rr hrd K w0 M own w a hw hu ht hd) ?_
  rintro e a' w' ⟨h0, M1, own1, q1, q2, q3, q4, q5⟩
  have fin : ∃ M' own', WRel w0 M' own' (stAt _) w' ∧ M'.upto _ ∧ L.Le M' ∧ RepL M' _ a'.tmps ∧ DefsOK K M' a'.defers := ⟨M1, own1, q1, q2, le.trans q3, q4, q5⟩
  rename_i ex _ _
  cases ex with
  | norm => exact absurd rfl hx
  | exit i => cases e <;> simp only [Ex.is] at h0; exact ⟨h0, fin⟩
  | ret => cases e <;> simp only [Ex.is] at h0; exact ⟨h0, fin⟩
 | again h k ih =>
  obtain ⟨i1, n, i2⟩ := ih
  refine ⟨Nat.le_trans h.len i1, n + 1, fun rr hrd K w0 M own w a L le hw hu ht hd => ?_⟩
  rw [roundsIn_succ]
  refine wpIn_mono (h.run rr hrd K w0 M own w a hw hu ht hd) ?_
  rintro e a' w' ⟨h0, M1, own1, q1, q2, q3, q4, q5⟩
  cases e <;> simp only [Ex.is] at h0
  exact i2 rr hrd K w0 M1 own1 w' a' L (le.trans q3) q1 q2 q4 q5
theorem CodeRunR.of_rounds {rd : Bool} {c : Code} {t : List D} {s : List Ob} {ex : Ex} {t' : List D} {s' : List Ob} (h : Rounds0 P rd c t s ex t' s') : CodeRunR P rd (.loop c) t s ex t' s' := by
 obtain ⟨h1, n, h2⟩ := h.depth
 exact ⟨fun rr hrd K w0 M own w a hw hu ht hd => wpIn_loop_rounds n (h2 rr hrd K w0 M own w a M (.refl _) hw hu ht hd), h1⟩
theorem iter_out {rd : Bool} {ρ' : Type} {r : ρ'} {c : Code} {body : List D → List Ob → Z P → (Ex → List D → List Ob → Z P → Option ρ') → Option ρ'}
  (hb : ∀ {t : List D} {s : List Ob} {z : Z P} {K : Ex → List D → List Ob → Z P → Option ρ'}, body t s z K = some r → ∃ ex t' s' z', K ex t' s' z' = some r ∧ (z'.c → z.c ∧ CodeRunR P rd c t s ex t' s')) :
  ∀ {n : Nat} {t : List D} {s : List Ob} {z : Z P} {K : Ex → List D → List Ob → Z P → Option ρ'}, iter body n t s z K = some r → ∃ ex t' s' z', K ex t' s' z' = some r ∧ (z'.c → z.c ∧ Rounds0 P rd c t s ex t' s')
 | 0, t, s, z, K, h => by simp [iter] at h
 | n + 1, t, s, z, K, h => by
  rw [iter] at h
  obtain ⟨ex, t1, s1, z1, h1, h2⟩ := hb h
  split at h1
  ·obtain ⟨ex', t2, s2, z2, h3, h4⟩ := iter_out hb h1
   exact ⟨ex', t2, s2, z2, h3, fun q => ⟨(h2 (h4 q).1).1, .again (h2 (h4 q).1).2 (h4 q).2⟩⟩
  ·rename_i hne
   exact ⟨_, t1, s1, z1, h1, fun q => ⟨(h2 q).1, .out (h2 q).2 hne⟩⟩
end
end Go.Ev
