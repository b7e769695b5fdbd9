/- A region's evaluation is sound: its trace; in the text's order; in whatever order its edges allow. -/
import Derived.Test.YteakhlhhmgpidaaEvK
namespace Go.Ev
open Go Go.RowKit
set_option linter.unusedVariables false
set_option linter.unusedSimpArgs false

section
variable {ρ' : Type}
mutual
theorem force_eq : ∀ (d : D) (K : D → Option ρ'), force d K = K d
  | .undef, K => by simp [force]
  | .int _ _, K => by simp [force]
  | .bool _, K => by simp [force]
  | .str _, K => by simp [force]
  | .nilp, K => by simp [force]
  | .ptr _ _ _, K => by simp [force]
  | .eptr _ _ _, K => by simp [force]
  | .lst _ _ _, K => by simp [force]
  | .nilf, K => by simp [force]
  | .fn f a b, K => by rw [force, forceL_eq, forceL_eq]
  | .agg cs, K => by rw [force, forceL_eq]
  | .tup cs, K => by rw [force, forceL_eq]
theorem forceL_eq : ∀ (l : List D) (K : List D → Option ρ'), forceL l K = K l
  | [], K => by simp [forceL]
  | d :: r, K => by rw [forceL, force_eq, forceL_eq]
end
theorem setc_eq : ∀ (l : List D) (i : Nat) (d : D) (K : List D → Option ρ'), setc l i d K = K (l.set i d)
  | [], i, d, K => by simp [setc]
  | a :: r, 0, d, K => by simp [setc]
  | a :: r, i + 1, d, K => by rw [setc, setc_eq]; rfl
theorem putc_eq (t : List D) (dst : Option Nat) (d : D) (K : List D → Option ρ') : putc t dst d K = K (put t dst d) := by
  cases dst with
  | none => rfl
  | some i => simp only [putc, force_eq, setc_eq, put]
theorem setOb_eq : ∀ (l : List Ob) (i : Nat) (d : Ob) (K : List Ob → Option ρ'), setOb l i d K = K (l.set i d)
  | [], i, d, K => by simp [setOb]
  | a :: r, 0, d, K => by simp [setOb]
  | a :: r, i + 1, d, K => by rw [setOb, setOb_eq]; rfl
theorem forceOb_eq (o : Ob) (K : Ob → Option ρ') : forceOb o K = K o := by cases o <;> simp [forceOb, forceL_eq]
theorem pushOb_eq : ∀ (l : List Ob) (o : Ob) (K : List Ob → Option ρ'), pushOb l o K = K (l ++ [o])
  | [], o, K => by simp [pushOb]
  | a :: r, o, K => by rw [pushOb, pushOb_eq]; rfl
end

/-! ### The trace of a region -/
structure Tr where
  o : Oper
  t : List D
  s : List Ob
  e : Option Eff
def Tr.val (x : Tr) : D := match x.e with | none => .tup [] | some e => e.val x.s.length
def Tr.nextT (x : Tr) : List D := put x.t x.o.dst x.val
def Tr.nextS (x : Tr) : List Ob := match x.e with
  | some (.upd i _ o' _) => x.s.set i o'
  | some (.new o' _) => x.s ++ [o']
  | some (.all s' _) => s'
  | _ => x.s
def Tr.fp (x : Tr) : FP := match x.e with
  | some (.read i _ _) => .rd i
  | some (.upd i _ _ _) => .wr i
  | some (.new _ _) => .nw x.s.length
  | some (.all _ _) => .all
  | _ => .non
def Tr.ok (P : Program) (ops : Array Oper) (x : Tr) : Prop :=
  match x.o.guard with
  | none => ∃ e, x.e = some e ∧ EffOK P x.o (opnd x.t) x.s e
  | some (j, want) => (∃ b, guardVal ops x.t j = .bool b ∧ ((b = want ∧ ∃ e, x.e = some e ∧ EffOK P x.o (opnd x.t) x.s e) ∨ (b ≠ want ∧ x.e = none))) ∨ (guardVal ops x.t j = .tup [] ∧ x.e = none)
def Trace (P : Program) (ops : Array Oper) : List Oper → List D → List Ob → List Tr → List D → List Ob → Prop
  | [], t, s, tr, t', s' => tr = [] ∧ t' = t ∧ s' = s
  | o :: rest, t, s, tr, t', s' => ∃ x xs, tr = x :: xs ∧ x.o = o ∧ x.t = t ∧ x.s = s ∧ x.ok P ops ∧ Trace P ops rest x.nextT x.nextS xs t' s'

theorem opsc_trace {ρ' : Type} {P : Program} {r : ρ'} {inl : Inl P ρ'} (hinl : InlSound P inl) {ops : Array Oper} : ∀ {rest : List Oper} {t : List D} {s : List Ob} {fps : List FP} {z : Z P} {K : List D → List Ob → List FP → Z P → Option ρ'}, opsc P inl ops rest t s fps z K = some r →
    ∃ tr t' s' z', K t' s' ((tr.map Tr.fp).reverse ++ fps) z' = some r ∧ (z'.c → z.c ∧ Trace P ops rest t s tr t' s')
  | [], t, s, fps, z, K, h => ⟨[], t, s, z, h, fun c => ⟨c, rfl, rfl, rfl⟩⟩
  | o :: rest, t, s, fps, z, K, h => by
    have run : ∀ {z : Z P} {want : Prop}, (opc P inl o t s z fun z e => match e with
        | .pure d => putc t o.dst d fun t' => opsc P inl ops rest t' s (.non :: fps) z K
        | .read id _ d => putc t o.dst d fun t' => opsc P inl ops rest t' s (.rd id :: fps) z K
        | .upd id _ o' d => putc t o.dst d fun t' => forceOb o' fun o2 => setOb s id o2 fun s' => opsc P inl ops rest t' s' (.wr id :: fps) z K
        | .new o' mk => putc t o.dst (mk s.length) fun t' => forceOb o' fun o2 => pushOb s o2 fun s' => opsc P inl ops rest t' s' (.nw s.length :: fps) z K
        | .all s' d => putc t o.dst d fun t' => opsc P inl ops rest t' s' (.all :: fps) z K) = some r →
        ∃ e tr t' s' z', K t' s' ((tr.map Tr.fp).reverse ++ ((⟨o, t, s, some e⟩ : Tr).fp :: fps)) z' = some r ∧ (z'.c → z.c ∧ EffOK P o (opnd t) s e ∧ Trace P ops rest (⟨o, t, s, some e⟩ : Tr).nextT (⟨o, t, s, some e⟩ : Tr).nextS tr t' s') := by
      intro z want h
      obtain ⟨e, z1, h1, h2⟩ := opc_out hinl h
      cases e with
      | pure d =>
        simp only [putc_eq] at h1
        obtain ⟨tr, t', s', z', k1, k2⟩ := opsc_trace hinl h1
        exact ⟨.pure d, tr, t', s', z', k1, fun c => ⟨(h2 (k2 c).1).1, (h2 (k2 c).1).2, (k2 c).2⟩⟩
      | read i ob d =>
        simp only [putc_eq] at h1
        obtain ⟨tr, t', s', z', k1, k2⟩ := opsc_trace hinl h1
        exact ⟨.read i ob d, tr, t', s', z', k1, fun c => ⟨(h2 (k2 c).1).1, (h2 (k2 c).1).2, (k2 c).2⟩⟩
      | upd i ob ob' d =>
        simp only [putc_eq, forceOb_eq, setOb_eq] at h1
        obtain ⟨tr, t', s', z', k1, k2⟩ := opsc_trace hinl h1
        exact ⟨.upd i ob ob' d, tr, t', s', z', k1, fun c => ⟨(h2 (k2 c).1).1, (h2 (k2 c).1).2, (k2 c).2⟩⟩
      | new ob mk =>
        simp only [putc_eq, forceOb_eq, pushOb_eq] at h1
        obtain ⟨tr, t', s', z', k1, k2⟩ := opsc_trace hinl h1
        exact ⟨.new ob mk, tr, t', s', z', k1, fun c => ⟨(h2 (k2 c).1).1, (h2 (k2 c).1).2, (k2 c).2⟩⟩
      | all s2 d =>
        simp only [putc_eq] at h1
        obtain ⟨tr, t', s', z', k1, k2⟩ := opsc_trace hinl h1
        exact ⟨.all s2 d, tr, t', s', z', k1, fun c => ⟨(h2 (k2 c).1).1, (h2 (k2 c).1).2, (k2 c).2⟩⟩
    unfold opsc at h
    simp only at h
    split at h
    · rename_i hg
      obtain ⟨e, tr, t', s', z', k1, k2⟩ := run (want := True) h
      refine ⟨⟨o, t, s, some e⟩ :: tr, t', s', z', by simpa using k1, fun c => ⟨(k2 c).1, _, _, rfl, rfl, rfl, rfl, ?_, (k2 c).2.2⟩⟩
      simp only [Tr.ok, hg]
      exact ⟨e, rfl, (k2 c).2.1⟩
    · rename_i j want hg
      split at h
      · rename_i b hb
        obtain ⟨z1, ⟨h1, h2⟩ | ⟨h1, h2⟩⟩ := branch_out h
        · obtain ⟨e, tr, t', s', z', k1, k2⟩ := run (want := True) h1
          refine ⟨⟨o, t, s, some e⟩ :: tr, t', s', z', by simpa using k1, fun c => ⟨(h2 (k2 c).1).1, _, _, rfl, rfl, rfl, rfl, ?_, (k2 c).2.2⟩⟩
          simp only [Tr.ok, hg]
          exact .inl ⟨b, hb, .inl ⟨by simpa using (h2 (k2 c).1).2, e, rfl, (k2 c).2.1⟩⟩
        · rw [putc_eq] at h1
          obtain ⟨tr, t', s', z', k1, k2⟩ := opsc_trace hinl h1
          refine ⟨⟨o, t, s, none⟩ :: tr, t', s', z', by simpa [Tr.fp] using k1, fun c => ⟨(h2 (k2 c).1).1, _, _, rfl, rfl, rfl, rfl, ?_, (k2 c).2⟩⟩
          simp only [Tr.ok, hg]
          exact .inl ⟨b, hb, .inr ⟨by simpa using (h2 (k2 c).1).2, trivial⟩⟩
      · rename_i hb
        rw [putc_eq] at h
        obtain ⟨tr, t', s', z', k1, k2⟩ := opsc_trace hinl h
        refine ⟨⟨o, t, s, none⟩ :: tr, t', s', z', by simpa [Tr.fp] using k1, fun c => ⟨(k2 c).1, _, _, rfl, rfl, rfl, rfl, ?_, (k2 c).2⟩⟩
        simp only [Tr.ok, hg]
        exact .inr ⟨hb, trivial⟩
      · cases h

/-! ### Slots -/
theorem repL_put {M M' : MM} (le : M.Le M') {t : List D} {a : Act} (h : RepL M t a.tmps) {dst : Option Nat} {d : D} {v : Value} (hr : Rep M' d v) : RepL M' (put t dst d) (a.put dst v).tmps := by
  cases dst with
  | none => exact h.mono le
  | some i =>
    refine ⟨by simp [put, Act.put, h.1], fun k d' v' p q => ?_⟩
    simp only [put, Act.put] at p q
    by_cases e : i = k
    · subst e
      have hlt : i < t.length := by
        rcases Nat.lt_or_ge i t.length with x | x
        · exact x
        · rw [List.getElem?_eq_none (by simpa using x)] at p; cases p
      have hlt2 : i < a.tmps.size := by rw [← h.1]; exact hlt
      simp [hlt] at p
      simp [hlt2] at q
      subst p q
      exact hr
    · rw [List.getElem?_set_ne e] at p
      rw [Array.getElem?_setIfInBounds_ne e] at q
      exact (h.2 k d' v' p q).mono le
theorem put_defers (a : Act) (dst : Option Nat) (v : Value) : (a.put dst v).defers = a.defers := by cases dst <;> rfl

theorem guard_val {M : MM} {ops : Array Oper} {t : List D} {a : Act} {j : Nat} {b : Bool} (h : ∀ i, (ops[j]?).bind (·.dst) = some i → Rep M (t.getD i .undef) (a.tmps.getD i undef)) (hg : guardVal ops t j = .bool b) : yielded ops a.tmps j = some b := by
  unfold guardVal at hg
  split at hg
  · rename_i o ho
    split at hg
    · rename_i i hi
      have h1 := h i (by simp [ho, hi])
      rw [hg] at h1
      unfold yielded
      simp only [ho, Option.bind_some, hi]
      generalize hv : a.tmps.getD i undef = v at h1
      cases h1
      rw [Array.getD_eq_getD_getElem?] at hv
      cases e : a.tmps[i]? with
      | none => rw [e] at hv; cases hv
      | some u => rw [e] at hv; simp only [Option.getD_some] at hv; subst hv; rfl
    · cases hg
  · cases hg

theorem rep_skip {M : MM} : Rep M (.tup []) undef := .tup rfl (fun i d v h => by simp at h)
theorem guard_undef {M : MM} {ops : Array Oper} {t : List D} {a : Act} {j : Nat} (h : ∀ i, (ops[j]?).bind (·.dst) = some i → Rep M (t.getD i .undef) (a.tmps.getD i undef)) (hg : guardVal ops t j = .tup []) : yielded ops a.tmps j = none := by
  unfold guardVal at hg
  split at hg
  · rename_i o ho
    split at hg
    · rename_i i hi
      have h1 := h i (by simp [ho, hi])
      rw [hg] at h1
      unfold yielded
      simp only [ho, Option.bind_some, hi]
      generalize hv : a.tmps.getD i undef = v at h1
      cases h1
      rw [Array.getD_eq_getD_getElem?] at hv
      cases e : a.tmps[i]? with
      | none => rfl
      | some u => rw [e] at hv; simp only [Option.getD_some] at hv; subst hv; rfl
    · cases hg
  · cases hg

theorem repL_getD {M : MM} {t : List D} {vs : Array Value} (h : RepL M t vs) (i : Nat) : Rep M (t.getD i .undef) (vs.getD i undef) := by
  cases e : t[i]? with
  | none => rw [List.getD_eq_getElem?_getD, e]; exact .undef _
  | some d =>
    obtain ⟨v, hv, hr⟩ := h.get e
    rw [List.getD_eq_getElem?_getD, e, Array.getD_eq_getD_getElem?, hv]
    exact hr

theorem stAt_set {s : List Ob} {i : Nat} (h : i < s.length) (o : Ob) : stAt (s.set i o) = upd (stAt s) i o := by
  funext k
  unfold stAt upd
  simp only [List.getD_eq_getElem?_getD]
  by_cases e : k = i
  · subst e; rw [List.getElem?_set_self h]; simp
  · rw [List.getElem?_set_ne (Ne.symm e), if_neg e]
theorem stAt_push (s : List Ob) (o : Ob) : stAt (s ++ [o]) = upd (stAt s) s.length o := by
  funext k
  unfold stAt upd
  simp only [List.getD_eq_getElem?_getD, List.getElem?_append]
  by_cases e : k = s.length
  · subst e; simp
  · rw [if_neg e]
    split
    · rfl
    · rename_i h
      rw [List.getElem?_eq_none (by simp; omega), List.getElem?_eq_none (by omega)]

theorem MM.upto_adds {M M' : MM} {n m : Nat} (h : M.upto n) (hb : ∀ j, m ≤ j → M'.box j = M.box j) (hh : ∀ j, m ≤ j → M'.hist j = M.hist j) (hm : n ≤ m) : M'.upto m :=
  ⟨fun id hi => by rw [hb id hi]; exact h.1 id (by omega), fun id v hi => by rw [hh id hi]; exact h.2 id v (by omega)⟩

/-- One operation, in the text's order. -/
theorem step_text {P : Program} {ops : Array Oper} {x : Tr} (hx : x.ok P ops) {w0 : Base} {M : MM} {own : Nat → Option Nat} {w : World} {a : Act} (hw : WRel w0 M own (stAt x.s) w) (hu : M.upto x.s.length) (ht : RepL M x.t a.tmps)
    {next : Act → World → Prop} {Q : Exit → Act → World → Prop}
    (hn : ∀ M' own' w' a', M.Le M' → M'.upto x.nextS.length → WRel w0 M' own' (stAt x.nextS) w' → RepL M' x.nextT a'.tmps → a'.defers = a.defers → next a' w') :
    (if Region.wanted x.o (yielded ops a.tmps) then x.o.wp P a w next Q ∨ (x.o.asks P a w ∧ LetsOut Q) else next (a.put x.o.dst undef) w) ∧ x.s.length ≤ x.nextS.length := by
  obtain ⟨o, t, s, e⟩ := x
  replace hu : M.upto s.length := hu
  replace hw : WRel w0 M own (stAt s) w := hw
  replace ht : RepL M t a.tmps := ht
  have eff : ∀ {e0 : Eff}, e = some e0 → EffOK P o (opnd t) s e0 → o.wp P a w next Q ∧ s.length ≤ (⟨o, t, s, e⟩ : Tr).nextS.length := by
    intro e0 he h0
    subst he
    have hop : ∀ y ∈ o.op.operands, Rep M (opnd t y) (a.eval y) := fun y _ => rep_opnd ht y
    have hid : M.box s.length = none ∧ ∀ v, M.hist s.length v = none := ⟨hu.1 _ (Nat.le_refl _), fun v => hu.2 _ v (Nat.le_refl _)⟩
    cases e0 with
    | pure d =>
      exact ⟨h0 w0 M own _ w a s.length hw hop trivial next Q fun v M' own' w' le ad hw' hr => hn M' own' w' _ le (MM.upto_adds hu (m := s.length) (fun j _ => by rw [ad.1]) (fun j _ => by rw [ad.2]) (Nat.le_refl _)) hw' (repL_put le ht hr) (put_defers _ _ _), Nat.le_refl _⟩
    | read i ob d =>
      exact ⟨h0.2 w0 M own _ w a s.length hw hop h0.1.1 next Q fun v M' own' w' le ad hw' hr => hn M' own' w' _ le (MM.upto_adds hu (m := s.length) (fun j _ => by rw [ad.1]) (fun j _ => by rw [ad.2]) (Nat.le_refl _)) hw' (repL_put le ht hr) (put_defers _ _ _), Nat.le_refl _⟩
    | upd i ob ob' d =>
      refine ⟨h0.2 w0 M own _ w a s.length hw hop h0.1.1 next Q fun v M' own' w' le ad hw' hr => hn M' own' w' _ le (by
        simp only [Tr.nextS, List.length_set]
        exact MM.upto_adds hu (fun j _ => by rw [ad.1]) (fun j hj => ad.2 j (by have := h0.1.2; omega)) (Nat.le_refl _)) (by simp only [Tr.nextS]; rw [stAt_set h0.1.2]; exact hw') (repL_put le ht hr) (put_defers _ _ _), by simp [Tr.nextS]⟩
    | new ob mk =>
      refine ⟨h0 w0 M own _ w a s.length hw hop hid next Q fun v M' own' w' le ad hw' hr => hn M' own' w' _ le (by
        simp only [Tr.nextS, List.length_append, List.length_singleton]
        exact MM.upto_adds hu (fun j hj => ad.1 j (by omega)) (fun j hj => ad.2 j (by omega)) (by omega)) (by simp only [Tr.nextS]; rw [stAt_push]; exact hw') (repL_put le ht hr) (put_defers _ _ _), by simp [Tr.nextS]⟩
    | all s' d =>
      exact ⟨h0.2 w0 M own w a hw hu hop next Q fun v M' own' w' le up hw' hr => hn M' own' w' _ le up hw' (repL_put le ht hr) (put_defers _ _ _), h0.1⟩
  unfold Tr.ok at hx
  simp only at hx
  split at hx
  · rename_i hg
    obtain ⟨e0, he, h0⟩ := hx
    obtain ⟨k1, k2⟩ := eff he h0
    refine ⟨?_, k2⟩
    have : Region.wanted o (yielded ops a.tmps) = true := by simp [Region.wanted, hg]
    rw [if_pos this]
    exact .inl k1
  · rename_i j want hg
    rcases hx with ⟨b, hb, hcase⟩ | ⟨hb, rfl⟩
    · have hy := guard_val (M := M) (a := a) (fun i _ => repL_getD ht i) hb
      rcases hcase with ⟨rfl, e0, he, h0⟩ | ⟨hne, rfl⟩
      · obtain ⟨k1, k2⟩ := eff he h0
        refine ⟨?_, k2⟩
        have : Region.wanted o (yielded ops a.tmps) = true := by simp [Region.wanted, hg, hy]
        rw [if_pos this]
        exact .inl k1
      · have : Region.wanted o (yielded ops a.tmps) = false := by simp [Region.wanted, hg, hy, hne]
        rw [this]
        exact ⟨hn M own w _ (.refl M) hu hw (repL_put (.refl M) ht rep_skip) (put_defers _ _ _), Nat.le_refl _⟩
    · have hy := guard_undef (M := M) (a := a) (fun i _ => repL_getD ht i) hb
      have : Region.wanted o (yielded ops a.tmps) = false := by simp [Region.wanted, hg, hy]
      rw [this]
      exact ⟨hn M own w _ (.refl M) hu hw (repL_put (.refl M) ht rep_skip) (put_defers _ _ _), Nat.le_refl _⟩

/-- A region in the text's order. -/
theorem region_text {P : Program} {ops : Array Oper} {w0 : Base} {Q : Exit → Act → World → Prop} : ∀ {rest : List Oper} {t : List D} {s : List Ob} {tr : List Tr} {t' : List D} {s' : List Ob}, Trace P ops rest t s tr t' s' →
    ∀ {M : MM} {own : Nat → Option Nat} {w : World} {a : Act} (k : Nat), ops.toList.drop k = rest → WRel w0 M own (stAt s) w → M.upto s.length → RepL M t a.tmps → a.defers = [] →
    (∀ M' own' w' a', M.Le M' → M'.upto s'.length → WRel w0 M' own' (stAt s') w' → RepL M' t' a'.tmps → a'.defers = [] → Q .normal a' w') → wpOps P ops Q (List.range' k rest.length) a w
  | [], t, s, tr, t', s', h, M, own, w, a, k, hk, hw, hu, ht, hd, hq => by
    obtain ⟨rfl, rfl, rfl⟩ := h
    exact hq M own w a (.refl M) hu hw ht hd
  | o :: rest, t, s, tr, t', s', h, M, own, w, a, k, hk, hw, hu, ht, hd, hq => by
    obtain ⟨x, xs, rfl, rfl, rfl, rfl, hok, h⟩ := h
    have hat : ops[k]? = some x.o := by
      rw [← Array.getElem?_toList]
      have := congrArg (fun l => l[0]?) hk
      simpa using this
    have hdrop : ops.toList.drop (k + 1) = rest := by
      have := congrArg List.tail hk
      simpa using this
    rw [List.length_cons, List.range'_succ]
    simp only [wpOps, hat]
    exact (step_text hok hw hu ht fun M' own' w' a' le up hw' ht' hd' => region_text h (k + 1) hdrop hw' up ht' (by rw [hd']; exact hd) fun M2 own2 w2 a2 le2 up2 hw2 ht2 hd2 => hq M2 own2 w2 a2 (le.trans le2) up2 hw2 ht2 hd2).1

theorem trace_len {P : Program} {ops : Array Oper} : ∀ {rest : List Oper} {t : List D} {s : List Ob} {tr : List Tr} {t' : List D} {s' : List Ob}, Trace P ops rest t s tr t' s' → tr.length = rest.length
  | [], _, _, _, _, _, h => by obtain ⟨rfl, _⟩ := h; rfl
  | o :: rest, _, _, _, _, _, h => by obtain ⟨x, xs, rfl, _, _, _, _, h⟩ := h; simp [trace_len h]
/-- What stands at a place of a trace. -/
theorem trace_at {P : Program} {ops : Array Oper} : ∀ {rest : List Oper} {t : List D} {s : List Ob} {tr : List Tr} {t' : List D} {s' : List Ob}, Trace P ops rest t s tr t' s' → ∀ (i : Nat) (x : Tr), tr[i]? = some x → rest[i]? = some x.o ∧ x.ok P ops
  | [], _, _, _, _, _, h, i, x, hx => by obtain ⟨rfl, _⟩ := h; simp at hx
  | o :: rest, _, _, _, _, _, h, i, x, hx => by
    obtain ⟨y, xs, rfl, ho, _, _, hok, h⟩ := h
    cases i with
    | zero => simp at hx; subst hx; exact ⟨by simp [ho], hok⟩
    | succ i => exact trace_at h i x (by simpa using hx)

theorem nextS_len {P : Program} {ops : Array Oper} {x : Tr} (h : x.ok P ops) : x.s.length ≤ x.nextS.length := by
  obtain ⟨o, t, s, e⟩ := x
  have eff : ∀ {e0 : Eff}, e = some e0 → EffOK P o (opnd t) s e0 → s.length ≤ (⟨o, t, s, e⟩ : Tr).nextS.length := by
    intro e0 he h0
    subst he
    cases e0 with
    | pure d => exact Nat.le_refl _
    | read i ob d => exact Nat.le_refl _
    | upd i ob ob' d => simp [Tr.nextS]
    | new ob mk => simp [Tr.nextS]
    | all s' d => exact h0.1
  unfold Tr.ok at h
  simp only at h
  split at h
  · obtain ⟨e0, he, h0⟩ := h; exact eff he h0
  · obtain ⟨b, _, ⟨_, e0, he, h0⟩ | ⟨_, rfl⟩⟩ | ⟨_, rfl⟩ := h
    · exact eff he h0
    · exact Nat.le_refl _
    · exact Nat.le_refl _
theorem trace_slen {P : Program} {ops : Array Oper} : ∀ {rest : List Oper} {t : List D} {s : List Ob} {tr : List Tr} {t' : List D} {s' : List Ob}, Trace P ops rest t s tr t' s' → s.length ≤ s'.length
  | [], _, _, _, _, _, h => by obtain ⟨_, _, rfl⟩ := h; exact Nat.le_refl _
  | o :: rest, _, _, _, _, _, h => by
    obtain ⟨x, xs, rfl, _, _, rfl, hok, h⟩ := h
    exact Nat.le_trans (nextS_len hok) (trace_slen h)

end Go.Ev
