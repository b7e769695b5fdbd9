/- Contracts and plain laws that a statement's proof leans on (texts merged: EvN). -/
import Derived.Test.YtglcgdnaanhddaaGreatN02
set_option linter.unusedVariables false
set_option linter.unusedSimpArgs false
namespace Go.Ev
open Go Go.RowKit
section
variable {ρ' : Type}
mutual
theorem force_eq : ∀ (d : D) (K : D → Option ρ'), force d K = K d
  | .undef, K => by simp [force]
  | .int _ _, K => by simp [force]
  | .bool _, K => by simp [force]
  | .str _, K => by simp [force]
  | .nilp, K => by simp [force]
  | .ptr _ _ _, K => by simp [force]
  | .eptr _ _ _, K => by simp [force]
  | .mapp _, K => by simp [force]
  | .yld _, K => by simp [force]
  | .slc _ _ _, K => by simp [force]
  | .sub _ _ _ _ _, K => by simp [force]
  | .lst _ _ _, K => by simp [force]
  | .nilf, K => by simp [force]
  | .fn f a b, K => by rw [force, forceL_eq, forceL_eq]
  | .agg cs, K => by rw [force, forceL_eq]
  | .tup cs, K => by rw [force, forceL_eq]
theorem forceL_eq : ∀ (l : List D) (K : List D → Option ρ'), forceL l K = K l
  | [], K => by simp [forceL]
  | d :: r, K => by rw [forceL, force_eq, forceL_eq]
end
theorem setc_eq : ∀ (l : List D) (i : Nat) (d : D) (K : List D → Option ρ'), setc l i d K = K (l.set i d)
 | [], i, d, K => by simp [setc]
 | a :: r, 0, d, K => by simp [setc]
 | a :: r, i + 1, d, K => by rw [setc, setc_eq]; rfl
theorem putc_eq (t : List D) (dst : Option Nat) (d : D) (K : List D → Option ρ') : putc t dst d K = K (put t dst d) := by
 cases dst with
 | none => rfl
 | some i => simp only [putc, force_eq, setc_eq, put]
theorem setOb_eq : ∀ (l : List Ob) (i : Nat) (d : Ob) (K : List Ob → Option ρ'), setOb l i d K = K (l.set i d)
 | [], i, d, K => by simp [setOb]
 | a :: r, 0, d, K => by simp [setOb]
 | a :: r, i + 1, d, K => by rw [setOb, setOb_eq]; rfl
theorem forceEs_eq : ∀ (es : List (List D × D)) (K : List (List D × D) → Option ρ'), forceEs es K = K es
 | [], _ => rfl
 | (n, d) :: r, K => by simp [forceEs, forceL_eq, force_eq, forceEs_eq r]
theorem forceOb_eq (o : Ob) (K : Ob → Option ρ') : forceOb o K = K o := by cases o <;> simp [forceOb, forceL_eq, forceEs_eq]
theorem forceQ_out {ρ' : Type} {P : Program} {r : ρ'} {z : Z P} {o : Ob} {k : Z P → Ob → Option ρ'} (h : forceQ z o k = some r) : ∃ z', k z' o = some r ∧ (z'.c → z.c) := by
 unfold forceQ at h
 split at h
 ·exact ⟨_, h, id⟩
 ·rw [forceOb_eq] at h
  exact ⟨_, h, id⟩
theorem pushOb_eq : ∀ (l : List Ob) (o : Ob) (K : List Ob → Option ρ'), pushOb l o K = K (l ++ [o])
 | [], o, K => by simp [pushOb]
 | a :: r, o, K => by rw [pushOb, pushOb_eq]; rfl
end
structure Tr where
  o : Oper
  t : List D
  s : List Ob
  e : Option Eff
  k : List Nat
  kc : List (Nat × Nat)
def Tr.val (x : Tr) : D := match x.e with | none => .tup [] | some e => e.val x.s.length
def Tr.nextT (x : Tr) : List D := put x.t x.o.dst x.val
def Tr.nextS (x : Tr) : List Ob := match x.e with
  | some (.upd i _ o' _) => x.s.set i o'
  | some (.new o' _) => x.s ++ [o']
  | some (.all s' _) => s'
  | _ => x.s
def Tr.fp (x : Tr) : FP := match x.e with
  | some (.read i _ _) => .rd i
  | some (.readc i j _) => .rdc i j
  | some (.upd i _ _ _) => .wr i
  | some (.new _ _) => .nw x.s.length
  | some (.all _ _) => .all x.k x.kc
  | _ => .non
def Tr.kok (x : Tr) : Prop := match x.e with
  | some (.all s' _) => (∀ i ∈ x.k, i < x.s.length ∧ x.s.getD i .dead = s'.getD i .dead) ∧ ∀ i j, (i, j) ∈ x.kc → cellAt (x.s.getD i .dead) j = cellAt (s'.getD i .dead) j
  | _ => True
def Tr.ok0 (P : Program) (ops : Array Oper) (x : Tr) : Prop :=
  match x.o.guard with
  | none => ∃ e, x.e = some e ∧ EffOK P x.o (opnd x.t) x.s e
  | some (j, want) => (∃ b, guardVal ops x.t j = .bool b ∧ ((b = want ∧ ∃ e, x.e = some e ∧ EffOK P x.o (opnd x.t) x.s e) ∨ (b ≠ want ∧ x.e = none))) ∨ (guardVal ops x.t j = .tup [] ∧ x.e = none)
def Tr.ok (P : Program) (ops : Array Oper) (x : Tr) : Prop := x.ok0 P ops ∧ x.kok
theorem keepP_out {s s' : List Ob} : ∀ (l : List (Nat × Ob)) {c : Prop}, keepLt s.length l = true → keepP s s' l c → c ∧ ∀ i ∈ keepIds l, i < s.length ∧ s.getD i .dead = s'.getD i .dead
 | [], c, _, h => ⟨h, fun i hi => by simp [keepIds] at hi⟩
 | (i, o) :: r, c, hl, h => by
  simp only [keepLt] at hl
  split at hl
  ·rename_i hlt
   obtain ⟨⟨⟨h1, h2⟩, h3⟩, h4⟩ := keepP_out r hl h
   refine ⟨h3, fun j hj => ?_⟩
   rw [keepIds, List.mem_cons] at hj
   rcases hj with rfl | hj
   ·exact ⟨Nat.lt_of_succ_le (by simpa [Nat.blt, Nat.ble_eq] using hlt), h1.symm.trans h2⟩
   ·exact h4 j hj
  ·cases hl
theorem cellP_out {s s' : List Ob} : ∀ (l : List (Nat × Nat × D)) {c : Prop}, cellP s s' l c → c ∧ ∀ i j, (i, j) ∈ cellIds l → cellAt (s.getD i .dead) j = cellAt (s'.getD i .dead) j
 | [], c, h => ⟨h, fun i j hi => by simp [cellIds] at hi⟩
 | (i, j, d) :: r, c, h => by
  obtain ⟨⟨⟨h1, h2⟩, h3⟩, h4⟩ := cellP_out r h
  refine ⟨h3, fun a b hj => ?_⟩
  rw [cellIds, List.mem_cons] at hj
  rcases hj with e | hj
  ·cases e; exact h1.symm.trans h2
  ·exact h4 a b hj
theorem keepc_out {ρ' : Type} {P : Program} {r : ρ'} {z : Z P} {s s' : List Ob} {k : Z P → List Nat → List (Nat × Nat) → Option ρ'} (h : keepc z s s' k = some r) : ∃ z' l kc, k z' l kc = some r ∧ (z'.c → z.c ∧ (∀ i ∈ l, i < s.length ∧ s.getD i .dead = s'.getD i .dead) ∧ ∀ i j, (i, j) ∈ kc → cellAt (s.getD i .dead) j = cellAt (s'.getD i .dead) j) := by
 unfold keepc at h
 split at h
 ·rename_i l rest hz
  obtain ⟨hl, h⟩ := chk_out h
  refine ⟨_, _, _, h, fun hc => ?_⟩
  obtain ⟨h1, h2⟩ := keepP_out l hl hc
  exact ⟨h1, h2, fun i j hi => by simp at hi⟩
 ·rename_i cs l rest hz
  obtain ⟨hl, h⟩ := chk_out h
  refine ⟨_, _, _, h, fun hc => ?_⟩
  obtain ⟨h0, h3⟩ := cellP_out cs hc
  obtain ⟨h1, h2⟩ := keepP_out l hl h0
  exact ⟨h1, h2, h3⟩
 ·exact ⟨z, [], [], h, fun c => ⟨c, fun i hi => by simp at hi, fun i j hi => by simp at hi⟩⟩
def Trace (P : Program) (ops : Array Oper) : List Oper → List D → List Ob → List Tr → List D → List Ob → Prop
  | [], t, s, tr, t', s' => tr = [] ∧ t' = t ∧ s' = s
  | o :: rest, t, s, tr, t', s' => ∃ x xs, tr = x :: xs ∧ x.o = o ∧ x.t = t ∧ x.s = s ∧ x.ok P ops ∧ Trace P ops rest x.nextT x.nextS xs t' s'
theorem opsc_trace {ρ' : Type} {P : Program} {r : ρ'} {inl : Inl P ρ'} (hinl : InlSound P inl) {ops : Array Oper} : ∀ {rest : List Oper} {t : List D} {s : List Ob} {fps : List FP} {z : Z P} {K : List D → List Ob → List FP → Z P → Option ρ'}, opsc P inl ops rest t s fps z K = some r →
  ∃ tr t' s' z', K t' s' ((tr.map Tr.fp).reverse ++ fps) z' = some r ∧ (z'.c → z.c ∧ Trace P ops rest t s tr t' s')
 | [], t, s, fps, z, K, h => ⟨[], t, s, z, h, fun c => ⟨c, rfl, rfl, rfl⟩⟩
 | o :: rest, t, s, fps, z, K, h => by
  have run : ∀ {z : Z P} {want : Prop}, (opc P inl o t s z fun z e => match e with
    | .pure d => putc t o.dst d fun t' => opsc P inl ops rest t' s (.non :: fps) z K
    | .read id _ d => putc t o.dst d fun t' => opsc P inl ops rest t' s (.rd id :: fps) z K
    | .readc id j d => putc t o.dst d fun t' => opsc P inl ops rest t' s (.rdc id j :: fps) z K
    | .upd id _ o' d => putc t o.dst d fun t' => forceQ z o' fun z o2 => setOb s id o2 fun s' => opsc P inl ops rest t' s' (.wr id :: fps) z K
    | .new o' mk => putc t o.dst (mk s.length) fun t' => forceQ z o' fun z o2 => pushOb s o2 fun s' => opsc P inl ops rest t' s' (.nw s.length :: fps) z K
    | .all s' d => putc t o.dst d fun t' => keepc z s s' fun z l kc => opsc P inl ops rest t' s' (.all l kc :: fps) z K) = some r →
    ∃ e l kc tr t' s' z', K t' s' ((tr.map Tr.fp).reverse ++ ((⟨o, t, s, some e, l, kc⟩ : Tr).fp :: fps)) z' = some r ∧ (z'.c → z.c ∧ EffOK P o (opnd t) s e ∧ (⟨o, t, s, some e, l, kc⟩ : Tr).kok ∧ Trace P ops rest (⟨o, t, s, some e, l, kc⟩ : Tr).nextT (⟨o, t, s, some e, l, kc⟩ : Tr).nextS tr t' s') := by
   intro z want h
   obtain ⟨e, z1, h1, h2⟩ := opc_out hinl h
   cases e with
   | pure d =>
    simp only [putc_eq] at h1
    obtain ⟨tr, t', s', z', k1, k2⟩ := opsc_trace hinl h1
    exact ⟨.pure d, [], [], tr, t', s', z', k1, fun c => ⟨(h2 (k2 c).1).1, (h2 (k2 c).1).2, trivial, (k2 c).2⟩⟩
   | read i ob d =>
    simp only [putc_eq] at h1
    obtain ⟨tr, t', s', z', k1, k2⟩ := opsc_trace hinl h1
    exact ⟨.read i ob d, [], [], tr, t', s', z', k1, fun c => ⟨(h2 (k2 c).1).1, (h2 (k2 c).1).2, trivial, (k2 c).2⟩⟩
   | readc i j d =>
    simp only [putc_eq] at h1
    obtain ⟨tr, t', s', z', k1, k2⟩ := opsc_trace hinl h1
    exact ⟨.readc i j d, [], [], tr, t', s', z', k1, fun c => ⟨(h2 (k2 c).1).1, (h2 (k2 c).1).2, trivial, (k2 c).2⟩⟩
   | upd i ob ob' d =>
    simp only [putc_eq] at h1
    obtain ⟨z2, h3, h4⟩ := forceQ_out h1
    rw [setOb_eq] at h3
    obtain ⟨tr, t', s', z', k1, k2⟩ := opsc_trace hinl h3
    exact ⟨.upd i ob ob' d, [], [], tr, t', s', z', k1, fun c => ⟨(h2 (h4 (k2 c).1)).1, (h2 (h4 (k2 c).1)).2, trivial, (k2 c).2⟩⟩
   | new ob mk =>
    simp only [putc_eq] at h1
    obtain ⟨z2, h3, h4⟩ := forceQ_out h1
    rw [pushOb_eq] at h3
    obtain ⟨tr, t', s', z', k1, k2⟩ := opsc_trace hinl h3
    exact ⟨.new ob mk, [], [], tr, t', s', z', k1, fun c => ⟨(h2 (h4 (k2 c).1)).1, (h2 (h4 (k2 c).1)).2, trivial, (k2 c).2⟩⟩
   | all s2 d =>
    simp only [putc_eq] at h1
    obtain ⟨z2, l, kc, h3, h4⟩ := keepc_out h1
    obtain ⟨tr, t', s', z', k1, k2⟩ := opsc_trace hinl h3
    exact ⟨.all s2 d, l, kc, tr, t', s', z', k1, fun c => ⟨(h2 (h4 (k2 c).1).1).1, (h2 (h4 (k2 c).1).1).2, (h4 (k2 c).1).2, (k2 c).2⟩⟩
  unfold opsc at h
  simp only at h
  split at h
  ·rename_i hg
   obtain ⟨e, l, kc, tr, t', s', z', k1, k2⟩ := run (want := True) h
   refine ⟨⟨o, t, s, some e, l, kc⟩ :: tr, t', s', z', by simpa using k1, fun c => ⟨(k2 c).1, _, _, rfl, rfl, rfl, rfl, ⟨?_, (k2 c).2.2.1⟩, (k2 c).2.2.2⟩⟩
   simp only [Tr.ok0, hg]
   exact ⟨e, rfl, (k2 c).2.1⟩
  ·rename_i j want hg
   split at h
   ·rename_i b hb
    obtain ⟨z1, ⟨h1, h2⟩ | ⟨h1, h2⟩⟩ := branch_out h
    ·obtain ⟨e, l, kc, tr, t', s', z', k1, k2⟩ := run (want := True) h1
     refine ⟨⟨o, t, s, some e, l, kc⟩ :: tr, t', s', z', by simpa using k1, fun c => ⟨(h2 (k2 c).1).1, _, _, rfl, rfl, rfl, rfl, ⟨?_, (k2 c).2.2.1⟩, (k2 c).2.2.2⟩⟩
     simp only [Tr.ok0, hg]
     exact .inl ⟨b, hb, .inl ⟨by simpa using (h2 (k2 c).1).2, e, rfl, (k2 c).2.1⟩⟩
    ·rw [putc_eq] at h1
     obtain ⟨tr, t', s', z', k1, k2⟩ := opsc_trace hinl h1
     refine ⟨⟨o, t, s, none, [], []⟩ :: tr, t', s', z', by simpa [Tr.fp] using k1, fun c => ⟨(h2 (k2 c).1).1, _, _, rfl, rfl, rfl, rfl, ⟨?_, trivial⟩, (k2 c).2⟩⟩
     simp only [Tr.ok0, hg]
     exact .inl ⟨b, hb, .inr ⟨by simpa using (h2 (k2 c).1).2, trivial⟩⟩
   ·rename_i hb
    rw [putc_eq] at h
    obtain ⟨tr, t', s', z', k1, k2⟩ := opsc_trace hinl h
    refine ⟨⟨o, t, s, none, [], []⟩ :: tr, t', s', z', by simpa [Tr.fp] using k1, fun c => ⟨(k2 c).1, _, _, rfl, rfl, rfl, rfl, ⟨?_, trivial⟩, (k2 c).2⟩⟩
    simp only [Tr.ok0, hg]
    exact .inr ⟨hb, trivial⟩
   ·cases h
theorem repL_put {M M' : MM} (le : M.Le M') {t : List D} {a : Act} (h : RepL M t a.tmps) {dst : Option Nat} {d : D} {v : Value} (hr : Rep M' d v) : RepL M' (put t dst d) (a.put dst v).tmps := by
 cases dst with
 | none => exact h.mono le
 | some i =>
  refine ⟨by simp [put, Act.put, h.1], fun k d' v' p q => ?_⟩
  simp only [put, Act.put] at p q
  by_cases e : i = k
  ·subst e
   have hlt : i < t.length := by
    rcases Nat.lt_or_ge i t.length with x | x
    ·exact x
    ·rw [List.getElem?_eq_none (by simpa using x)] at p; cases p
   have hlt2 : i < a.tmps.size := by rw [← h.1]; exact hlt
   simp [hlt] at p
   simp [hlt2] at q
   subst p q
   exact hr
  ·rw [List.getElem?_set_ne e] at p
   rw [Array.getElem?_setIfInBounds_ne e] at q
   exact (h.2 k d' v' p q).mono le
theorem put_defers (a : Act) (dst : Option Nat) (v : Value) : (a.put dst v).defers = a.defers := by cases dst <;> rfl
theorem guard_val {M : MM} {ops : Array Oper} {t : List D} {a : Act} {j : Nat} {b : Bool} (h : ∀ i, (ops[j]?).bind (·.dst) = some i → Rep M (t.getD i .undef) (a.tmps.getD i undef)) (hg : guardVal ops t j = .bool b) : yielded ops a.tmps j = some b := by
 unfold guardVal at hg
 split at hg
 ·rename_i o ho
  split at hg
  ·rename_i i hi
   have h1 := h i (by simp [ho, hi])
   rw [hg] at h1
   unfold yielded
   simp only [ho, Option.bind_some, hi]
   generalize hv : a.tmps.getD i undef = v at h1
   cases h1
   rw [Array.getD_eq_getD_getElem?] at hv
   cases e : a.tmps[i]? with
   | none => rw [e] at hv; cases hv
   | some u => rw [e] at hv; simp only [Option.getD_some] at hv; subst hv; rfl
  ·cases hg
 ·cases hg
theorem rep_skip {M : MM} : Rep M (.tup []) undef := .tup rfl (fun i d v h => by simp at h)
theorem guard_undef {M : MM} {ops : Array Oper} {t : List D} {a : Act} {j : Nat} (h : ∀ i, (ops[j]?).bind (·.dst) = some i → Rep M (t.getD i .undef) (a.tmps.getD i undef)) (hg : guardVal ops t j = .tup []) : yielded ops a.tmps j = none := by
 unfold guardVal at hg
 split at hg
 ·rename_i o ho
  split at hg
  ·rename_i i hi
   have h1 := h i (by simp [ho, hi])
   rw [hg] at h1
   unfold yielded
   simp only [ho, Option.bind_some, hi]
   generalize hv : a.tmps.getD i undef = v at h1
   cases h1
   rw [Array.getD_eq_getD_getElem?] at hv
   cases e : a.tmps[i]? with
   | none => rfl
   | some u => rw [e] at hv; simp only [Option.getD_some] at hv; subst hv; rfl
  ·cases hg
 ·cases hg
theorem repL_getD {M : MM} {t : List D} {vs : Array Value} (h : RepL M t vs) (i : Nat) : Rep M (t.getD i .undef) (vs.getD i undef) := by
 cases e : t[i]? with
 | none => rw [List.getD_eq_getElem?_getD, e]; exact .undef _
 | some d =>
  obtain ⟨v, hv, hr⟩ := h.get e
  rw [List.getD_eq_getElem?_getD, e, Array.getD_eq_getD_getElem?, hv]
  exact hr
theorem stAt_set {s : List Ob} {i : Nat} (h : i < s.length) (o : Ob) : stAt (s.set i o) = upd (stAt s) i o := by
 funext k
 unfold stAt upd
 simp only [List.getD_eq_getElem?_getD]
 by_cases e : k = i
 ·subst e; rw [List.getElem?_set_self h]; simp
 ·rw [List.getElem?_set_ne (Ne.symm e), if_neg e]
theorem stAt_push (s : List Ob) (o : Ob) : stAt (s ++ [o]) = upd (stAt s) s.length o := by
 funext k
 unfold stAt upd
 simp only [List.getD_eq_getElem?_getD, List.getElem?_append]
 by_cases e : k = s.length
 ·subst e; simp
 ·rw [if_neg e]
  split
  ·rfl
  ·rename_i h
   rw [List.getElem?_eq_none (by simp; omega), List.getElem?_eq_none (by omega)]
theorem MM.upto_adds {M M' : MM} {n m : Nat} (h : M.upto n) (hb : ∀ j, m ≤ j → M'.box j = M.box j) (hh : ∀ j, m ≤ j → M'.hist j = M.hist j) (hm : n ≤ m) : M'.upto m :=
 ⟨fun id hi => by rw [hb id hi]; exact h.1 id (by omega), fun id v hi => by rw [hh id hi]; exact h.2 id v (by omega)⟩
theorem step_text {P : Program} {ops : Array Oper} {x : Tr} (hx : x.ok P ops) {w0 : Base} {M : MM} {own : Nat → Option Nat} {w : World} {a : Act} (hw : WRel w0 M own (stAt x.s) w) (hu : M.upto x.s.length) (ht : RepL M x.t a.tmps)
  {next : Act → World → Prop} {Q : Exit → Act → World → Prop}
  (hn : ∀ M' own' w' a', M.Le M' → M'.upto x.nextS.length → WRel w0 M' own' (stAt x.nextS) w' → RepL M' x.nextT a'.tmps → a'.defers = a.defers → next a' w') :
  (if Region.wanted x.o (yielded ops a.tmps) then wpO P x.o a w next Q else next (a.put x.o.dst undef) w) ∧ x.s.length ≤ x.nextS.length := by
 obtain ⟨o, t, s, e, l, kc⟩ := x
 replace hx := hx.1
 replace hu : M.upto s.length := hu
 replace hw : WRel w0 M own (stAt s) w := hw
 replace ht : RepL M t a.tmps := ht
 have eff : ∀ {e0 : Eff}, e = some e0 → EffOK P o (opnd t) s e0 → wpO P o a w next Q ∧ s.length ≤ (⟨o, t, s, e, l, kc⟩ : Tr).nextS.length := by
  intro e0 he h0
  subst he
  have hop : ∀ y ∈ o.op.operands, Rep M (opnd t y) (a.eval y) := fun y _ => rep_opnd ht y
  have hid : M.box s.length = none ∧ ∀ v, M.hist s.length v = none := ⟨hu.1 _ (Nat.le_refl _), fun v => hu.2 _ v (Nat.le_refl _)⟩
  cases e0 with
  | pure d =>
   exact ⟨h0 w0 M own _ w a s.length hw hop trivial next Q fun v M' own' w' le ad hw' hr => hn M' own' w' _ le (MM.upto_adds hu (m := s.length) (fun j _ => by rw [ad.1]) (fun j _ => by rw [ad.2]) (Nat.le_refl _)) hw' (repL_put le ht hr) (put_defers _ _ _), Nat.le_refl _⟩
  | readc i j d =>
   exact ⟨h0.2 w0 M own _ w a s.length hw hop h0.1.1 next Q fun v M' own' w' le ad hw' hr => hn M' own' w' _ le (MM.upto_adds hu (m := s.length) (fun j _ => by rw [ad.1]) (fun j _ => by rw [ad.2]) (Nat.le_refl _)) hw' (repL_put le ht hr) (put_defers _ _ _), Nat.le_refl _⟩
  | read i ob d =>
   exact ⟨h0.2 w0 M own _ w a s.length hw hop h0.1.1 next Q fun v M' own' w' le ad hw' hr => hn M' own' w' _ le (MM.upto_adds hu (m := s.length) (fun j _ => by rw [ad.1]) (fun j _ => by rw [ad.2]) (Nat.le_refl _)) hw' (repL_put le ht hr) (put_defers _ _ _), Nat.le_refl _⟩
  | upd i ob ob' d =>
   refine ⟨h0.2 w0 M own _ w a s.length hw hop h0.1.1 next Q fun v M' own' w' le ad hw' hr => hn M' own' w' _ le (by
    simp only [Tr.nextS, List.length_set]
    exact MM.upto_adds hu (fun j _ => by rw [ad.1]) (fun j hj => ad.2 j (by have := h0.1.2; omega)) (Nat.le_refl _)) (by simp only [Tr.nextS]; rw [stAt_set h0.1.2]; exact hw') (repL_put le ht hr) (put_defers _ _ _), by simp [Tr.nextS]⟩
  | new ob mk =>
   refine ⟨h0 w0 M own _ w a s.length hw hop hid next Q fun v M' own' w' le ad hw' hr => hn M' own' w' _ le (by
    simp only [Tr.nextS, List.length_append, List.length_singleton]
    exact MM.upto_adds hu (fun j hj => ad.1 j (by omega)) (fun j hj => ad.2 j (by omega)) (by omega)) (by simp only [Tr.nextS]; rw [stAt_push]; exact hw') (repL_put le ht hr) (put_defers _ _ _), by simp [Tr.nextS]⟩
  | all s' d =>
   exact ⟨h0.2 w0 M own w a hw hu hop next Q fun v M' own' w' le up hw' hr => hn M' own' w' _ le up hw' (repL_put le ht hr) (put_defers _ _ _), h0.1⟩
 unfold Tr.ok0 at hx
 simp only at hx
 split at hx
 ·rename_i hg
  obtain ⟨e0, he, h0⟩ := hx
  obtain ⟨k1, k2⟩ := eff he h0
  refine ⟨?_, k2⟩
  have : Region.wanted o (yielded ops a.tmps) = true := by simp [Region.wanted, hg]
  rw [if_pos this]
  exact k1
 ·rename_i j want hg
  rcases hx with ⟨b, hb, hcase⟩ | ⟨hb, rfl⟩
  ·have hy := guard_val (M := M) (a := a) (fun i _ => repL_getD ht i) hb
   rcases hcase with ⟨rfl, e0, he, h0⟩ | ⟨hne, rfl⟩
   ·obtain ⟨k1, k2⟩ := eff he h0
    refine ⟨?_, k2⟩
    have : Region.wanted o (yielded ops a.tmps) = true := by simp [Region.wanted, hg, hy]
    rw [if_pos this]
    exact k1
   ·have : Region.wanted o (yielded ops a.tmps) = false := by simp [Region.wanted, hg, hy, hne]
    rw [this]
    exact ⟨hn M own w _ (.refl M) hu hw (repL_put (.refl M) ht rep_skip) (put_defers _ _ _), Nat.le_refl _⟩
  ·have hy := guard_undef (M := M) (a := a) (fun i _ => repL_getD ht i) hb
   have : Region.wanted o (yielded ops a.tmps) = false := by simp [Region.wanted, hg, hy]
   rw [this]
   exact ⟨hn M own w _ (.refl M) hu hw (repL_put (.refl M) ht rep_skip) (put_defers _ _ _), Nat.le_refl _⟩
theorem region_text {P : Program} {ops : Array Oper} {w0 : Base} {Q : Exit → Act → World → Prop} {df : List Deferred} (rr : Option Nat) : ∀ {rest : List Oper} {t : List D} {s : List Ob} {tr : List Tr} {t' : List D} {s' : List Ob}, Trace P ops rest t s tr t' s' →
  ∀ {M : MM} {own : Nat → Option Nat} {w : World} {a : Act} (k : Nat), ops.toList.drop k = rest → WRel w0 M own (stAt s) w → M.upto s.length → RepL M t a.tmps → a.defers = df →
  (∀ M' own' w' a', M.Le M' → M'.upto s'.length → WRel w0 M' own' (stAt s') w' → RepL M' t' a'.tmps → a'.defers = df → Q .normal a' w') → wpOpsIn (FW rr) 0 P ops Q (List.range' k rest.length) a w
 | [], t, s, tr, t', s', h, M, own, w, a, k, hk, hw, hu, ht, hd, hq => by
  obtain ⟨rfl, rfl, rfl⟩ := h
  exact hq M own w a (.refl M) hu hw ht hd
 | o :: rest, t, s, tr, t', s', h, M, own, w, a, k, hk, hw, hu, ht, hd, hq => by
  obtain ⟨x, xs, rfl, rfl, rfl, rfl, hok, h⟩ := h
  have hat : ops[k]? = some x.o := by
   rw [← Array.getElem?_toList]
   have := congrArg (fun l => l[0]?) hk
   simpa using this
  have hdrop : ops.toList.drop (k + 1) = rest := by
   have := congrArg List.tail hk
   simpa using this
  rw [List.length_cons, List.range'_succ]
  simp only [wpOpsIn, hat]
  have hs := (step_text (next := wpOpsIn (FW rr) 0 P ops Q (List.range' (k + 1) rest.length)) (Q := Q) hok hw hu ht fun M' own' w' a' le up hw' ht' hd' => region_text rr h (k + 1) hdrop hw' up ht' (by rw [hd']; exact hd) fun M2 own2 w2 a2 le2 up2 hw2 ht2 hd2 => hq M2 own2 w2 a2 (le.trans le2) up2 hw2 ht2 hd2).1
  split
  ·rename_i hwt
   rw [if_pos hwt] at hs
   exact hs rr
  ·rename_i hwt
   rw [if_neg hwt] at hs
   exact ⟨fun _ _ => trivial, hs⟩
theorem trace_at {P : Program} {ops : Array Oper} : ∀ {rest : List Oper} {t : List D} {s : List Ob} {tr : List Tr} {t' : List D} {s' : List Ob}, Trace P ops rest t s tr t' s' → ∀ (i : Nat) (x : Tr), tr[i]? = some x → rest[i]? = some x.o ∧ x.ok P ops
 | [], _, _, _, _, _, h, i, x, hx => by obtain ⟨rfl, _⟩ := h; simp at hx
 | o :: rest, _, _, _, _, _, h, i, x, hx => by
  obtain ⟨y, xs, rfl, ho, _, _, hok, h⟩ := h
  cases i with
  | zero => simp at hx; subst hx; exact ⟨by simp [ho], hok⟩
  | succ i => exact trace_at h i x (by simpa using hx)
theorem nextS_len {P : Program} {ops : Array Oper} {x : Tr} (h : x.ok P ops) : x.s.length ≤ x.nextS.length := by
 obtain ⟨o, t, s, e, l, kc⟩ := x
 replace h := h.1
 have eff : ∀ {e0 : Eff}, e = some e0 → EffOK P o (opnd t) s e0 → s.length ≤ (⟨o, t, s, e, l, kc⟩ : Tr).nextS.length := by
  intro e0 he h0
  subst he
  cases e0 with
  | pure d => exact Nat.le_refl _
  | read i ob d => exact Nat.le_refl _
  | readc i j d => exact Nat.le_refl _
  | upd i ob ob' d => simp [Tr.nextS]
  | new ob mk => simp [Tr.nextS]
  | all s' d => exact h0.1
 unfold Tr.ok0 at h
 simp only at h
 split at h
 ·obtain ⟨e0, he, h0⟩ := h; exact eff he h0
 ·obtain ⟨b, _, ⟨_, e0, he, h0⟩ | ⟨_, rfl⟩⟩ | ⟨_, rfl⟩ := h
  ·exact eff he h0
  ·exact Nat.le_refl _
  ·exact Nat.le_refl _
theorem trace_slen {P : Program} {ops : Array Oper} : ∀ {rest : List Oper} {t : List D} {s : List Ob} {tr : List Tr} {t' : List D} {s' : List Ob}, Trace P ops rest t s tr t' s' → s.length ≤ s'.length
 | [], _, _, _, _, _, h => by obtain ⟨_, _, rfl⟩ := h; exact Nat.le_refl _
 | o :: rest, _, _, _, _, _, h => by
  obtain ⟨x, xs, rfl, _, _, rfl, hok, h⟩ := h
  exact Nat.le_trans (nextS_len hok) (trace_slen h)
theorem foldl_bits (acc : List Nat) : ∀ (es : List Edge) (m k : Nat), (es.foldl (fun m e => match Region.binds .any e with | true => m ||| (1 <<< e.on) ||| acc.getD e.on 0 | false => m) m).testBit k = true →
  m.testBit k = true ∨ ∃ e ∈ es, Region.binds .any e = true ∧ (k = e.on ∨ (acc.getD e.on 0).testBit k = true)
 | [], m, k, h => .inl h
 | e :: es, m, k, h => by
  rw [List.foldl_cons] at h
  rcases foldl_bits acc es _ k h with h | ⟨e', he, h1, h2⟩
  ·split at h
   ·rename_i hb
    rw [Nat.testBit_or, Nat.testBit_or, Bool.or_eq_true, Bool.or_eq_true] at h
    rcases h with (h | h) | h
    ·exact .inl h
    ·refine .inr ⟨e, by simp, hb, .inl ?_⟩
     rw [Nat.one_shiftLeft, Nat.testBit_two_pow] at h
     exact (of_decide_eq_true h).symm
    ·exact .inr ⟨e, by simp, hb, .inr h⟩
   ·exact .inl h
  ·exact .inr ⟨e', by simp [he], h1, h2⟩
def bitsOf (o : Oper) (acc : List Nat) : Nat := o.after.toList.foldl (fun m e => match Region.binds .any e with | true => m ||| (1 <<< e.on) ||| acc.getD e.on 0 | false => m) 0
theorem aheads_spec : ∀ (rest : List Oper) (acc : List Nat), (aheads rest acc).length = acc.length + rest.length ∧ (aheads rest acc).take acc.length = acc ∧
  ∀ (j : Nat) (o : Oper), rest[j]? = some o → (aheads rest acc)[acc.length + j]? = some (bitsOf o ((aheads rest acc).take (acc.length + j)))
 | [], acc => ⟨by simp [aheads], by simp [aheads], fun j o h => by simp at h⟩
 | o :: rest, acc => by
  have ih := aheads_spec rest (acc ++ [bitsOf o acc])
  have hun : aheads (o :: rest) acc = aheads rest (acc ++ [bitsOf o acc]) := rfl
  rw [hun]
  obtain ⟨h1, h2, h3⟩ := ih
  have h2' : (aheads rest (acc ++ [bitsOf o acc])).take acc.length = acc := by
   have := congrArg (fun l => l.take acc.length) h2
   simp only [List.length_append, List.length_singleton, List.take_take] at this
   rw [show min acc.length (acc.length + 1) = acc.length by omega] at this
   rw [this]
   simp
  refine ⟨by rw [h1]; simp; omega, h2', fun j q hq => ?_⟩
  cases j with
  | zero =>
   simp at hq
   subst hq
   rw [Nat.add_zero, h2']
   have := congrArg (fun l => l[acc.length]?) h2
   simp only [List.length_append, List.length_singleton, List.getElem?_take] at this
   rw [if_pos (by omega)] at this
   rw [this]
   simp
  | succ j =>
   have := h3 j q (by simpa using hq)
   simp only [List.length_append, List.length_singleton] at this
   rw [show acc.length + 1 + j = acc.length + (j + 1) by omega] at this
   exact this
def preds (ops : Array Oper) (L : Nat → Bool) (j : Nat) : Prop := ∀ o, ops[j]? = some o → ∀ e ∈ o.after.toList, Region.binds .any e = true → L e.on = true
def closed (ops : Array Oper) (L : Nat → Bool) : Prop := ∀ i, L i = true → preds ops L i
theorem reach {ops : Array Oper} {L : Nat → Bool} (hc : closed ops L) : ∀ (n j : Nat), j ≤ n → preds ops L j → ∀ k, ((aheads ops.toList []).getD j 0).testBit k = true → L k = true := by
 intro n
 induction n with
 | zero =>
  intro j hj hp k hk
  obtain rfl : j = 0 := by omega
  cases ho : ops[0]? with
  | none =>
   have hlen := (aheads_spec ops.toList []).1
   have : (aheads ops.toList [])[0]? = none := by
    rw [List.getElem?_eq_none_iff, hlen, List.length_nil, Nat.zero_add, Array.length_toList]
    exact Array.getElem?_eq_none_iff.1 ho
   rw [List.getD_eq_getElem?_getD, this] at hk
   simp at hk
  | some o =>
   have h := (aheads_spec ops.toList []).2.2 0 o (by rw [Array.getElem?_toList]; exact ho)
   simp only [List.length_nil, Nat.zero_add, List.take_zero] at h
   rw [List.getD_eq_getElem?_getD, h, Option.getD_some] at hk
   rcases foldl_bits _ _ _ _ hk with h0 | ⟨e, he, h1, h2⟩
   ·simp at h0
   ·rcases h2 with rfl | h2
    ·exact hp o ho e he h1
    ·simp at h2
 | succ n ih =>
  intro j hj hp k hk
  cases ho : ops[j]? with
  | none =>
   have hlen := (aheads_spec ops.toList []).1
   have : (aheads ops.toList [])[j]? = none := by
    rw [List.getElem?_eq_none_iff, hlen, List.length_nil, Nat.zero_add, Array.length_toList]
    exact Array.getElem?_eq_none_iff.1 ho
   rw [List.getD_eq_getElem?_getD, this] at hk
   simp at hk
  | some o =>
   have h := (aheads_spec ops.toList []).2.2 j o (by rw [Array.getElem?_toList]; exact ho)
   simp only [List.length_nil, Nat.zero_add] at h
   rw [List.getD_eq_getElem?_getD, h, Option.getD_some] at hk
   rcases foldl_bits _ _ _ _ hk with h0 | ⟨e, he, h1, h2⟩
   ·simp at h0
   ·have hL := hp o ho e he h1
    rcases h2 with rfl | h2
    ·exact hL
    ·rw [List.getD_eq_getElem?_getD, List.getElem?_take] at h2
     split at h2
     ·rename_i hlt
      refine ih e.on (by omega) (hc _ hL) k ?_
      rw [List.getD_eq_getElem?_getD]
      exact h2
     ·simp at h2
section
variable (tr : List Tr) (t0 : List D) (σ0 : Nat → Ob)
def touchS (x : Tr) (id : Nat) : Prop := match x.e with
  | some (.upd i _ _ _) => id = i
  | some (.new _ _) => id = x.s.length
  | some (.all _ _) => id ∉ x.k
  | _ => False
def doneT (L : Nat → Bool) : Nat → List D
  | 0 => t0
  | k + 1 => match L k, tr[k]? with
    | true, some x => put (doneT L k) x.o.dst x.val
    | _, _ => doneT L k
def doneS (L : Nat → Bool) : Nat → Nat → Ob
  | 0 => σ0
  | k + 1 => match L k, tr[k]? with
    | true, some x => match x.e with
      | some (.upd i _ o' _) => upd (doneS L k) i o'
      | some (.new o' _) => upd (doneS L k) x.s.length o'
      | some (.all s' _) => fun id => if id ∈ x.k then doneS L k id else stAt s' id
      | _ => doneS L k
    | _, _ => doneS L k
theorem put_get_other {t : List D} {dst : Option Nat} {d : D} {i : Nat} (h : dst ≠ some i) : (put t dst d)[i]? = t[i]? := by
 cases dst with
 | none => rfl
 | some j => exact List.getElem?_set_ne (fun e => h (by rw [e]))
theorem put_length (t : List D) (dst : Option Nat) (d : D) : (put t dst d).length = t.length := by cases dst <;> simp [put]
theorem doneT_length (L : Nat → Bool) : ∀ k, (doneT tr t0 L k).length = t0.length
 | 0 => rfl
 | k + 1 => by
  unfold doneT
  split
  ·rw [put_length, doneT_length L k]
  ·exact doneT_length L k
theorem doneT_agree {L L' : Nat → Bool} {i : Nat} : ∀ k, (∀ j x, j < k → tr[j]? = some x → x.o.dst = some i → L j = L' j) → (doneT tr t0 L k)[i]? = (doneT tr t0 L' k)[i]?
 | 0, _ => rfl
 | k + 1, h => by
  have ih := doneT_agree (L := L) (L' := L') (i := i) k (fun j x hj => h j x (by omega))
  have hlen : (doneT tr t0 L k).length = (doneT tr t0 L' k).length := by rw [doneT_length, doneT_length]
  unfold doneT
  cases hx : tr[k]? with
  | none => cases L k <;> cases L' k <;> exact ih
  | some x =>
   by_cases hd : x.o.dst = some i
   ·rw [h k x (by omega) hx hd]
    cases L' k
    ·exact ih
    ·simp only [hd, put, List.getElem?_set, hlen, if_true]
   ·cases L k <;> cases L' k <;> simp only [] <;> first | exact ih | (rw [put_get_other hd]; exact ih) | (rw [put_get_other hd, put_get_other hd]; exact ih)
theorem doneT_stay {L : Nat → Bool} {i : Nat} (m : Nat) : ∀ k, m ≤ k → (∀ j x, m ≤ j → j < k → tr[j]? = some x → x.o.dst = some i → L j = false) → (doneT tr t0 L k)[i]? = (doneT tr t0 L m)[i]?
 | 0, hm, _ => by
  have e : m = 0 := by omega
  subst e
  rfl
 | k + 1, hm, h => by
  by_cases e : m = k + 1
  ·subst e; rfl
  ·have ih := doneT_stay m k (by omega) (fun j x h1 h2 => h j x h1 (by omega))
   conv => lhs; unfold doneT
   cases hx : tr[k]? with
   | none => cases L k <;> exact ih
   | some x =>
    by_cases hd : x.o.dst = some i
    ·rw [h k x (by omega) (by omega) hx hd]; exact ih
    ·cases L k
     ·exact ih
     ·simp only []; rw [put_get_other hd]; exact ih
theorem doneS_agree {L L' : Nat → Bool} {id : Nat} : ∀ k, (∀ j x, j < k → tr[j]? = some x → touchS x id → L j = L' j) → doneS tr σ0 L k id = doneS tr σ0 L' k id
 | 0, _ => rfl
 | k + 1, h => by
  have ih := doneS_agree (L := L) (L' := L') (id := id) k (fun j x hj => h j x (by omega))
  unfold doneS
  cases hx : tr[k]? with
  | none => cases L k <;> cases L' k <;> exact ih
  | some x =>
   have hk := h k x (by omega) hx
   unfold touchS at hk
   cases he : x.e with
   | none => cases L k <;> cases L' k <;> simp only [he] <;> exact ih
   | some e =>
    rw [he] at hk
    cases e with
    | pure d => cases L k <;> cases L' k <;> simp only [he] <;> exact ih
    | read i o d => cases L k <;> cases L' k <;> simp only [he] <;> exact ih
    | readc i j d => cases L k <;> cases L' k <;> simp only [he] <;> exact ih
    | upd i o o' d =>
     by_cases e1 : id = i
     ·rw [hk e1]; cases L' k <;> simp only [he, upd, e1, if_true] <;> (try exact e1 ▸ ih)
     ·cases L k <;> cases L' k <;> simp only [he, upd, e1, if_false] <;> exact ih
    | new o' mk =>
     by_cases e1 : id = x.s.length
     ·rw [hk e1]; cases L' k <;> simp only [he, upd, e1, if_true] <;> (try exact e1 ▸ ih)
     ·cases L k <;> cases L' k <;> simp only [he, upd, e1, if_false] <;> exact ih
    | all s' d =>
     by_cases e1 : id ∈ x.k
     ·cases L k <;> cases L' k <;> simp only [he, e1, if_true] <;> exact ih
     ·rw [hk e1]; cases L' k <;> simp only [he, e1, if_false]; exact ih
theorem doneS_stay {L : Nat → Bool} {id : Nat} (m : Nat) : ∀ k, m ≤ k → (∀ j x, m ≤ j → j < k → tr[j]? = some x → touchS x id → L j = false) → doneS tr σ0 L k id = doneS tr σ0 L m id
 | 0, hm, _ => by
  have e : m = 0 := by omega
  subst e
  rfl
 | k + 1, hm, h => by
  by_cases e : m = k + 1
  ·subst e; rfl
  ·have ih := doneS_stay m k (by omega) (fun j x h1 h2 => h j x h1 (by omega))
   conv => lhs; unfold doneS
   cases hx : tr[k]? with
   | none => cases L k <;> exact ih
   | some x =>
    have hk := h k x (by omega) (by omega) hx
    unfold touchS at hk
    cases hL : L k with
    | false => exact ih
    | true =>
     rw [hL] at hk
     simp only []
     cases he : x.e with
     | none => exact ih
     | some e =>
      rw [he] at hk
      cases e with
      | pure d => exact ih
      | read i o d => exact ih
      | readc i j d => exact ih
      | upd i o o' d =>
       by_cases e1 : id = i
       ·exact absurd (hk e1) (by simp)
       ·simp only [upd, e1, if_false]; exact ih
      | new o' mk =>
       by_cases e1 : id = x.s.length
       ·exact absurd (hk e1) (by simp)
       ·simp only [upd, e1, if_false]; exact ih
      | all s' d =>
       by_cases e1 : id ∈ x.k
       ·simp only [e1, if_true]; exact ih
       ·exact absurd (hk e1) (by simp)
end
theorem done_all {P : Program} {ops : Array Oper} : ∀ {rest : List Oper} {t : List D} {s : List Ob} {tr : List Tr} {t' : List D} {s' : List Ob}, Trace P ops rest t s tr t' s' →
  (∀ (i : Nat) (x : Tr), tr[i]? = some x → doneT tr t (fun _ => true) i = x.t ∧ doneS tr (stAt s) (fun _ => true) i = stAt x.s ∧ s.length ≤ x.s.length ∧ x.nextS.length ≤ s'.length ∧
   (∀ (j : Nat) (y : Tr), j < i → tr[j]? = some y → y.nextS.length ≤ x.s.length) ∧ (∀ id, s.length ≤ id → id < x.s.length → ∃ j y, j < i ∧ tr[j]? = some y ∧ y.s.length ≤ id ∧ id < y.nextS.length)) ∧
  doneT tr t (fun _ => true) tr.length = t' ∧ doneS tr (stAt s) (fun _ => true) tr.length = stAt s'
 | [], t, s, tr, t', s', h => by
  obtain ⟨rfl, rfl, rfl⟩ := h
  exact ⟨fun i x hx => by simp at hx, rfl, rfl⟩
 | o :: rest, t, s, tr, t', s', h => by
  obtain ⟨x, xs, rfl, rfl, rfl, rfl, hok, h⟩ := h
  obtain ⟨ih, ih1, ih2⟩ := done_all h
  have hslen := nextS_len hok
  have shiftT : ∀ k, doneT (x :: xs) x.t (fun _ => true) (k + 1) = doneT xs x.nextT (fun _ => true) k := by
   intro k
   induction k with
   | zero => rfl
   | succ k ihk =>
    conv => lhs; unfold doneT
    conv => rhs; unfold doneT
    simp only [List.getElem?_cons_succ]
    cases xs[k]? with
    | none => exact ihk
    | some y => simp only []; rw [ihk]
  have hbase : doneS (x :: xs) (stAt x.s) (fun _ => true) 1 = stAt x.nextS := by
   unfold doneS doneS
   simp only [List.getElem?_cons_zero]
   unfold Tr.nextS
   cases he : x.e with
   | none => rfl
   | some e =>
    cases e with
    | pure d => rfl
    | read i o d => rfl
    | readc i j d => rfl
    | upd i ob ob' d =>
     have : i < x.s.length := by
      replace hok := hok.1
      unfold Tr.ok0 at hok
      rw [he] at hok
      split at hok
      ·obtain ⟨e0, h0, h1⟩ := hok; cases h0; exact h1.1.2
      ·obtain ⟨b, _, ⟨_, e0, h0, h1⟩ | ⟨_, h0⟩⟩ | ⟨_, h0⟩ := hok
       ·cases h0; exact h1.1.2
       ·cases h0
       ·cases h0
     simp only []
     rw [stAt_set this]
    | new ob mk => simp only []; rw [stAt_push]
    | all s2 d =>
     have hk := hok.2
     unfold Tr.kok at hk
     rw [he] at hk
     simp only []
     funext id
     by_cases e1 : id ∈ x.k
     ·rw [if_pos e1]; exact (hk.1 id e1).2
     ·rw [if_neg e1]
  have shiftS : ∀ k, doneS (x :: xs) (stAt x.s) (fun _ => true) (k + 1) = doneS xs (stAt x.nextS) (fun _ => true) k := by
   intro k
   induction k with
   | zero => exact hbase
   | succ k ihk =>
    conv => lhs; unfold doneS
    conv => rhs; unfold doneS
    simp only [List.getElem?_cons_succ]
    cases xs[k]? with
    | none => exact ihk
    | some y => simp only []; rw [ihk]
  refine ⟨fun i y hy => ?_, by rw [List.length_cons, shiftT]; exact ih1, by rw [List.length_cons, shiftS]; exact ih2⟩
  cases i with
  | zero =>
   simp at hy
   subst hy
   exact ⟨rfl, rfl, Nat.le_refl _, trace_slen h, fun j y hj => by omega, fun id h1 h2 => by omega⟩
  | succ i =>
   obtain ⟨a1, a2, a3, a4, a5, a6⟩ := ih i y (by simpa using hy)
   refine ⟨by rw [shiftT]; exact a1, by rw [shiftS]; exact a2, by omega, a4, ?_, ?_⟩
   ·intro j z hj hz
    cases j with
    | zero => simp at hz; subst hz; exact a3
    | succ j => exact a5 j z (by omega) (by simpa using hz)
   ·intro id h1 h2
    rcases Nat.lt_or_ge id x.nextS.length with q | q
    ·exact ⟨0, x, by omega, rfl, h1, q⟩
    ·obtain ⟨j, z, b1, b2, b3, b4⟩ := a6 id q h2
     exact ⟨j + 1, z, by omega, by simpa using b2, b3, b4⟩
theorem drawOK_out {ops : Array Oper} {tr : List Tr} (h : drawOK ops ((tr.map Tr.fp).reverse ++ []) = true) :
  tr.length = ops.size ∧ (∀ (j : Nat) (o : Oper), ops[j]? = some o → ∀ e ∈ o.after.toList, Region.binds .any e = true → e.on < j) ∧
  ∀ (i j : Nat) (x y : Tr) (ox oy : Oper), i < j → tr[i]? = some x → tr[j]? = some y → ops[i]? = some ox → ops[j]? = some oy → ((aheads ops.toList []).getD j 0).testBit i = true ∨ (share ops ox oy = false ∧ clash x.fp y.fp = false) := by
 unfold drawOK at h
 simp only [List.append_nil, List.reverse_reverse, List.length_map, Array.length_toList, Bool.and_eq_true, Nat.beq_eq, List.all_eq_true, List.mem_range] at h
 obtain ⟨hl, h⟩ := h
 refine ⟨hl, ?_, ?_⟩
 ·intro j o ho e he hb
  have hj : j < ops.size := by
   rcases Nat.lt_or_ge j ops.size with q | q
   ·exact q
   ·simp [Array.getElem?_eq_none q] at ho
  have := (h j hj).1
  rw [Array.getElem?_toList, ho] at this
  simp only [Array.all_eq_true_iff_forall_mem] at this
  have h1 := this e (by simpa using he)
  rw [hb] at h1
  simp only [Bool.not_true, Bool.false_or] at h1
  exact Nat.lt_of_succ_le (by simpa [Nat.blt, Nat.ble_eq] using h1)
 ·intro i j x y ox oy hij hx hy hox hoy
  have hj : j < ops.size := by
   rcases Nat.lt_or_ge j ops.size with q | q
   ·exact q
   ·simp [Array.getElem?_eq_none q] at hoy
  have := (h j hj).2 i hij
  rw [Array.getElem?_toList, Array.getElem?_toList, hox, hoy] at this
  simp only [List.getD_eq_getElem?_getD, List.getElem?_map, hx, hy, Option.map_some, Option.getD_some, Bool.or_eq_true, Bool.and_eq_true, Bool.not_eq_true'] at this
  rw [List.getD_eq_getElem?_getD]
  exact this
theorem memN_iff' {i : Nat} : ∀ {l : List Nat}, memN i l = true ↔ i ∈ l
 | [] => by simp [memN]
 | a :: r => by
  unfold memN
  split
  ·rename_i h; rw [Nat.beq_eq] at h; subst h; simp
  ·rename_i h
   rw [memN_iff']
   have : a ≠ i := fun e => by subst e; simp at h
   simp [Ne.symm this]
theorem memC_iff {i j : Nat} : ∀ {l : List (Nat × Nat)}, memC i j l = true ↔ (i, j) ∈ l
 | [] => by simp [memC]
 | (a, b) :: r => by
  unfold memC
  split
  ·rename_i h1 h2
   rw [Nat.beq_eq] at h1 h2
   subst h1 h2
   simp
  ·rename_i h
   rw [memC_iff, List.mem_cons]
   refine ⟨.inr, fun q => ?_⟩
   rcases q with e | q
   ·cases e
    exact (h (Nat.beq_refl i) (Nat.beq_refl j)).elim
   ·exact q
theorem touch_fp {z : Tr} {id : Nat} (h : touchS z id) : z.fp = .wr id ∨ z.fp = .nw id ∨ ∃ l kc, z.fp = .all l kc ∧ id ∉ l := by
 unfold touchS at h
 unfold Tr.fp
 cases he : z.e with
 | none => rw [he] at h; exact h.elim
 | some e =>
  rw [he] at h
  cases e with
  | pure d => exact h.elim
  | read i o d => exact h.elim
  | readc i j d => exact h.elim
  | upd i o o' d => subst h; exact .inl rfl
  | new o mk => subst h; exact .inr (.inl rfl)
  | all s d => exact .inr (.inr ⟨z.k, z.kc, rfl, h⟩)
theorem grow_fp {z : Tr} {id : Nat} (h1 : z.s.length ≤ id) (h2 : id < z.nextS.length) : z.fp = .nw id ∨ ∃ l kc, z.fp = .all l kc := by
 unfold Tr.nextS at h2
 unfold Tr.fp
 cases he : z.e with
 | none => rw [he] at h2; simp at h2; omega
 | some e =>
  rw [he] at h2
  cases e with
  | pure d => simp at h2; omega
  | read i o d => simp at h2; omega
  | readc i j d => simp at h2; omega
  | upd i o o' d => simp at h2; omega
  | new o mk =>
   simp at h2
   have e : id = z.s.length := by omega
   subst e
   exact .inl rfl
  | all s d => exact .inr ⟨_, _, rfl⟩
section
variable {P : Program} {ops : Array Oper} {t0 : List D} {s0 : List Ob} {tr : List Tr} {tn : List D} {sn : List Ob} {w0 : Base} {M0 : MM} {df : List Deferred}
structure DInv (df : List Deferred) (P : Program) (ops : Array Oper) (t0 : List D) (s0 : List Ob) (tr : List Tr) (w0 : Base) (M0 : MM) (L : Nat → Bool) (M : MM) (own : Nat → Option Nat) (w : World) (a : Act) : Prop where
  cl : closed ops L
  rel : WRel w0 M own (doneS tr (stAt s0) L ops.size) w
  slots : RepL M (doneT tr t0 L ops.size) a.tmps
  defers : a.defers = df
  live : ∀ id, (M.box id ≠ none ∨ ∃ v, M.hist id v ≠ none) → id < s0.length ∨ ∃ (j : Nat) (y : Tr), L j = true ∧ tr[j]? = some y ∧ y.s.length ≤ id ∧ id < y.nextS.length
  le : M0.Le M
def addL (L : Nat → Bool) (i : Nat) : Nat → Bool := fun j => if j = i then true else L j
theorem step_draw (htr : Trace P ops ops.toList t0 s0 tr tn sn) (hd : drawOK ops ((tr.map Tr.fp).reverse ++ []) = true) {L : Nat → Bool} {M : MM} {own : Nat → Option Nat} {w : World} {a : Act} (inv : DInv df P ops t0 s0 tr w0 M0 L M own w a)
  {i : Nat} {x : Tr} (hx : tr[i]? = some x) (hLi : L i = false) (hp : preds ops L i) {Q : Exit → Act → World → Prop} {K : Act → World → Prop}
  (hK : ∀ M' own' w' a', DInv df P ops t0 s0 tr w0 M0 (addL L i) M' own' w' a' → K a' w') : ∀ rr, wpOpIn (FW rr) 0 P ops Q i K a w := by
 intro rr
 obtain ⟨hlen, hedge, hpair⟩ := drawOK_out hd
 obtain ⟨hall, _, _⟩ := done_all htr
 obtain ⟨ho', hok⟩ := trace_at htr i x hx
 have hat : ops[i]? = some x.o := by rw [← Array.getElem?_toList]; exact ho'
 have hop : ∀ {j : Nat} {y : Tr}, tr[j]? = some y → ops[j]? = some y.o := fun {j y} hy => by rw [← Array.getElem?_toList]; exact (trace_at htr j y hy).1
 have hin : i < ops.size := by
  rcases Nat.lt_or_ge i ops.size with q | q
  ·exact q
  ·simp [Array.getElem?_eq_none q] at hat
 obtain ⟨aT, aS, a3, a4, a5, a6⟩ := hall i x hx
 have before : ∀ {j : Nat} {y : Tr}, j < i → tr[j]? = some y → (share ops y.o x.o = true ∨ clash y.fp x.fp = true) → L j = true := by
  intro j y hj hy hc
  rcases hpair j i y x _ _ hj hy hx (hop hy) hat with h | ⟨h1, h2⟩
  ·exact reach inv.cl i i (Nat.le_refl _) hp j h
  ·rcases hc with hc | hc
   ·rw [h1] at hc; cases hc
   ·rw [h2] at hc; cases hc
 have after : ∀ {j : Nat} {y : Tr}, i < j → tr[j]? = some y → (share ops x.o y.o = true ∨ clash x.fp y.fp = true) → L j = false := by
  intro j y hj hy hc
  rcases hpair i j x y _ _ hj hx hy hat (hop hy) with h | ⟨h1, h2⟩
  ·cases e : L j with
   | false => rfl
   | true =>
    have := reach inv.cl j j (Nat.le_refl _) (inv.cl j e) i h
    rw [hLi] at this; cases this
  ·rcases hc with hc | hc
   ·rw [h1] at hc; cases hc
   ·rw [h2] at hc; cases hc
 have clash_of : ∀ {f g : FP} {id : Nat}, (f = .wr id ∨ f = .nw id ∨ ∃ l kc, f = .all l kc ∧ id ∉ l) → (g = .rd id ∨ g = .wr id ∨ g = .nw id ∨ ∃ l kc, g = .all l kc) → clash f g = true := by
  intro f g id h1 h2
  rcases h1 with rfl | rfl | ⟨l, kc, rfl, hl⟩ <;> rcases h2 with rfl | rfl | rfl | ⟨l', kc', rfl⟩ <;> simp [clash]
  cases e : memN id l
  ·rfl
  ·exact absurd (memN_iff'.1 e) hl
 have clash_of' : ∀ {f g : FP} {id : Nat}, (f = .rd id ∨ f = .wr id ∨ f = .nw id ∨ ∃ l kc, f = .all l kc) → (g = .wr id ∨ g = .nw id ∨ ∃ l kc, g = .all l kc ∧ id ∉ l) → clash f g = true := by
  intro f g id h1 h2
  rcases h1 with rfl | rfl | rfl | ⟨l', kc', rfl⟩ <;> rcases h2 with rfl | rfl | ⟨l, kc, rfl, hl⟩ <;> simp [clash]
  cases e : memN id l
  ·rfl
  ·exact absurd (memN_iff'.1 e) hl
 have F1 : ∀ y, y ∈ looks ops x.o → (doneT tr t0 L ops.size)[y]? = x.t[y]? := by
  intro y hy
  rw [doneT_stay tr t0 (L := L) (i := y) i ops.size (by omega) (fun j z h1 h2 hz hdst => by
   rcases Nat.lt_or_eq_of_le h1 with h | h
   ·refine after h hz (.inl ?_)
    unfold share
    rw [hdst]
    simp only [Bool.or_eq_true]
    right
    simpa using hy
   ·rw [← h]; exact hLi)]
  rw [doneT_agree tr t0 (L := L) (L' := fun _ => true) (i := y) i (fun j z hj hz hdst => by
   refine before hj hz (.inl ?_)
   unfold share
   rw [hdst]
   simp only [Bool.or_eq_true]
   left; left
   simpa using hy), aT]
 have hops : ∀ y ∈ x.o.op.operands, opnd (doneT tr t0 L ops.size) y = opnd x.t y := by
  intro y hy
  cases y with
  | tmp k =>
   have : k ∈ looks ops x.o := by
    unfold looks tmpsOf
    refine List.mem_append.2 (.inl (List.mem_filterMap.2 ⟨.tmp k, by simpa using hy, rfl⟩))
   show List.getD _ _ _ = List.getD _ _ _
   rw [List.getD_eq_getElem?_getD, List.getD_eq_getElem?_getD, F1 k this]
  | const v => rfl
  | global g => rfl
  | func f => rfl
 have hrep : ∀ y ∈ x.o.op.operands, Rep M (opnd x.t y) (a.eval y) := fun y hy => by rw [← hops y hy]; exact rep_opnd inv.slots y
 have F2 : ∀ id, (x.fp = .rd id ∨ x.fp = .wr id ∨ x.fp = .nw id ∨ ∃ l kc, x.fp = .all l kc) → doneS tr (stAt s0) L ops.size id = stAt x.s id := by
  intro id hfp
  rw [doneS_stay tr (stAt s0) (L := L) (id := id) i ops.size (by omega) (fun j z h1 h2 hz ht => by
   rcases Nat.lt_or_eq_of_le h1 with h | h
   ·exact after h hz (.inr (clash_of' hfp (touch_fp ht)))
   ·rw [← h]; exact hLi)]
  rw [doneS_agree tr (stAt s0) (L := L) (L' := fun _ => true) (id := id) i (fun j z hj hz ht => before hj hz (.inr (clash_of (touch_fp ht) hfp))), aS]
 have order : ∀ {id a b : Nat} {y z : Tr}, a < b → tr[a]? = some y → tr[b]? = some z → touchS y id → touchS z id → L b = true → L a = true := by
  intro id a b y z hab hy hz ty tz hLb
  have hc : clash y.fp z.fp = true := clash_of (touch_fp ty) (by
   rcases touch_fp tz with q | q | ⟨l, kc, q, _⟩
   ·exact .inr (.inl q)
   ·exact .inr (.inr (.inl q))
   ·exact .inr (.inr (.inr ⟨l, kc, q⟩)))
  rcases hpair a b y z _ _ hab hy hz (hop hy) (hop hz) with h | ⟨_, h2⟩
  ·exact reach inv.cl b b (Nat.le_refl _) (inv.cl b hLb) a h
  ·rw [h2] at hc; cases hc
 have F3 : ∀ id j, x.fp = .rdc id j → cellAt (doneS tr (stAt s0) L ops.size id) j = cellAt (stAt x.s id) j := by
  intro id j hfp
  obtain ⟨m, hm1, hm2⟩ : ∃ m, (∀ k y, m ≤ k → tr[k]? = some y → touchS y id → L k = false) ∧ ∀ k y, k < m → tr[k]? = some y → touchS y id → L k = true := by
   have key : ∀ n, (∀ k y, n ≤ k → tr[k]? = some y → touchS y id → L k = false) → ∃ m, (∀ k y, m ≤ k → tr[k]? = some y → touchS y id → L k = false) ∧ ∀ k y, k < m → tr[k]? = some y → touchS y id → L k = true := by
    intro n
    induction n with
    | zero => exact fun h => ⟨0, h, fun k y hk => by omega⟩
    | succ n ih =>
     intro h
     by_cases hn : ∃ y, tr[n]? = some y ∧ touchS y id ∧ L n = true
     ·obtain ⟨y, hy, ty, hLn⟩ := hn
      refine ⟨n + 1, h, fun k z hk hz tz => ?_⟩
      rcases Nat.lt_or_eq_of_le (Nat.le_of_lt_succ hk) with q | q
      ·exact order q hz hy tz ty hLn
      ·subst q; exact hLn
     ·refine ih fun k y hk hy ty => ?_
      rcases Nat.lt_or_eq_of_le hk with q | q
      ·exact h k y q hy ty
      ·subst q
       cases e : L n with
       | false => rfl
       | true => exact absurd ⟨y, hy, ty, e⟩ hn
   exact key tr.length fun k y hk hy => by rw [List.getElem?_eq_none hk] at hy; cases hy
  have still : ∀ k y, tr[k]? = some y → ((m ≤ k ∧ k < i) ∨ (i ≤ k ∧ k < m)) → cellAt (doneS tr (stAt s0) (fun _ => true) (k + 1) id) j = cellAt (doneS tr (stAt s0) (fun _ => true) k id) j := by
   intro k y hy hk
   by_cases ty : touchS y id
   ·have hnc : clash y.fp x.fp = false ∧ clash x.fp y.fp = false := by
     rcases hk with ⟨h1, h2⟩ | ⟨h1, h2⟩
     ·have hL := hm1 k y h1 hy ty
      have : clash y.fp x.fp = false := by
       cases e : clash y.fp x.fp with
       | false => rfl
       | true => rw [before h2 hy (.inr e)] at hL; cases hL
      refine ⟨this, ?_⟩
      rw [hfp] at this ⊢
      rcases touch_fp ty with q | q | ⟨l, kc, q, _⟩
      ·rw [q, show clash (.wr id) (.rdc id j) = true from Nat.beq_refl id] at this; cases this
      ·rw [q, show clash (.nw id) (.rdc id j) = true from Nat.beq_refl id] at this; cases this
      ·rw [q] at this ⊢; exact this
     ·have hL := hm2 k y h2 hy ty
      have hne : i ≠ k := fun e => by subst e; rw [hLi] at hL; cases hL
      have : clash x.fp y.fp = false := by
       cases e : clash x.fp y.fp with
       | false => rfl
       | true => rw [after (by omega) hy (.inr e)] at hL; cases hL
      refine ⟨?_, this⟩
      rw [hfp] at this ⊢
      rcases touch_fp ty with q | q | ⟨l, kc, q, _⟩
      ·rw [q, show clash (.rdc id j) (.wr id) = true from Nat.beq_refl id] at this; cases this
      ·rw [q, show clash (.rdc id j) (.nw id) = true from Nat.beq_refl id] at this; cases this
      ·rw [q] at this ⊢; exact this
    have hc := hnc.2
    rw [hfp] at hc
    rcases touch_fp ty with q | q | ⟨l, kc, q, hl⟩
    ·rw [q, show clash (.rdc id j) (.wr id) = true from Nat.beq_refl id] at hc; cases hc
    ·rw [q, show clash (.rdc id j) (.nw id) = true from Nat.beq_refl id] at hc; cases hc
    ·rw [q] at hc
     have hmem : (id, j) ∈ kc := by
      cases e : memC id j kc with
      | true => exact memC_iff.1 e
      | false =>
       have e2 : memN id l = false := by
        cases e3 : memN id l with
        | false => rfl
        | true => exact absurd (memN_iff'.1 e3) hl
       simp [clash, e, e2] at hc
     obtain ⟨_, hoky⟩ := trace_at htr k y hy
     obtain ⟨_, yS, _, _, _, _⟩ := hall k y hy
     have hkok := hoky.2
     unfold Tr.fp at q
     unfold Tr.kok at hkok
     cases he : y.e with
     | none => rw [he] at q; cases q
     | some e =>
      rw [he] at q hkok
      cases e with
      | all s' d =>
       simp only at q hkok
       cases q
       have hc2 := hkok.2 id j hmem
       have e1 : doneS tr (stAt s0) (fun _ => true) (k + 1) id = stAt s' id := by
        conv => lhs; unfold doneS
        simp only [hy, he, if_neg hl]
       rw [e1, yS]
       exact hc2.symm
      | _ => cases q
   ·have e1 : doneS tr (stAt s0) (fun _ => true) (k + 1) id = doneS tr (stAt s0) (fun _ => true) k id :=
     doneS_stay tr (stAt s0) (L := fun _ => true) (id := id) k (k + 1) (by omega) (fun j' z h1 h2 hz tz => by
      obtain rfl : j' = k := by omega
      rw [hy] at hz
      obtain rfl := Option.some.inj hz
      exact absurd tz ty)
    rw [e1]
  have walk : ∀ n a, (∀ k, a ≤ k → k < a + n → (m ≤ k ∧ k < i) ∨ (i ≤ k ∧ k < m)) → a + n ≤ tr.length → cellAt (doneS tr (stAt s0) (fun _ => true) (a + n) id) j = cellAt (doneS tr (stAt s0) (fun _ => true) a id) j := by
   intro n
   induction n with
   | zero => intro a _ _; rfl
   | succ n ih =>
    intro a h hl
    rw [← Nat.add_assoc, still (a + n) _ (List.getElem?_eq_getElem (by omega)) (h (a + n) (by omega) (by omega))]
    exact ih a (fun k h1 h2 => h k h1 (by omega)) (by omega)
  have hit : i < tr.length := by
   rcases Nat.lt_or_ge i tr.length with q | q
   ·exact q
   ·rw [List.getElem?_eq_none q] at hx; cases hx
  have hmle : doneS tr (stAt s0) L ops.size id = doneS tr (stAt s0) (fun _ => true) (min m tr.length) id := by
   rw [doneS_stay tr (stAt s0) (L := L) (id := id) (min m tr.length) ops.size (by rw [← hlen]; exact Nat.min_le_right ..) (fun k y h1 h2 hy ty => by
    rcases Nat.lt_or_ge k tr.length with q | q
    ·exact hm1 k y (by omega) hy ty
    ·rw [List.getElem?_eq_none q] at hy; cases hy)]
   exact doneS_agree tr (stAt s0) (L := L) (L' := fun _ => true) (id := id) _ (fun k y hk hy ty => hm2 k y (by omega) hy ty)
  rw [hmle, ← aS]
  rcases Nat.le_total (min m tr.length) i with q | q
  ·have := walk (i - min m tr.length) (min m tr.length) (fun k h1 h2 => .inl ⟨by omega, by omega⟩) (by omega)
   rw [show min m tr.length + (i - min m tr.length) = i by omega] at this
   exact this.symm
  ·have := walk (min m tr.length - i) i (fun k h1 h2 => .inr ⟨by omega, by omega⟩) (by omega)
   rw [show i + (min m tr.length - i) = min m tr.length by omega] at this
   exact this
 have hadd : ∀ {j : Nat}, j ≠ i → addL L i j = L j := fun {j} h => by simp [addL, h]
 have haddi : addL L i i = true := by simp [addL]
 have hclosed : closed ops (addL L i) := by
  intro j hj o ho e he hb
  by_cases e1 : j = i
  ·subst e1
   by_cases e2 : e.on = j
   ·rw [e2]; exact haddi
   ·rw [hadd e2]; exact hp o ho e he hb
  ·rw [hadd e1] at hj
   by_cases e2 : e.on = i
   ·rw [e2]; exact haddi
   ·rw [hadd e2]; exact inv.cl j hj o ho e he hb
 have hslots : ∀ {M' : MM} {v : Value}, M.Le M' → Rep M' x.val v → RepL M' (doneT tr t0 (addL L i) ops.size) (a.put x.o.dst v).tmps := by
  intro M' v le hv
  have hl := inv.slots.1
  rw [doneT_length] at hl
  refine ⟨by rw [doneT_length]; cases x.o.dst <;> simp [Act.put, hl], fun y d u h1 h2 => ?_⟩
  by_cases e : x.o.dst = some y
  ·rw [doneT_stay tr t0 (L := addL L i) (i := y) (i + 1) ops.size (by omega) (fun j z q1 q2 hz hdst => by
    rw [hadd (by omega)]
    refine after (by omega) hz (.inl ?_)
    unfold share
    rw [e]
    simp only [Bool.or_eq_true]
    left; right
    simp [hdst])] at h1
   unfold doneT at h1
   simp only [haddi, hx, e, put] at h1
   rw [List.getElem?_set] at h1
   simp only [if_true] at h1
   split at h1
   ·obtain rfl := Option.some.inj h1
    simp only [e, Act.put] at h2
    rw [Array.getElem?_setIfInBounds] at h2
    simp only [if_true] at h2
    split at h2
    ·obtain rfl := Option.some.inj h2; exact hv
    ·cases h2
   ·cases h1
  ·rw [doneT_agree tr t0 (L := addL L i) (L' := L) (i := y) ops.size (fun j z hj hz hdst => hadd (fun q => by subst q; rw [hx] at hz; obtain rfl := Option.some.inj hz; exact e hdst))] at h1
   have h2' : a.tmps[y]? = some u := by
    cases hdst : x.o.dst with
    | none => rw [hdst] at h2; exact h2
    | some k =>
     rw [hdst] at h2
     simp only [Act.put] at h2
     rw [Array.getElem?_setIfInBounds_ne (fun q => e (by rw [hdst, q]))] at h2
     exact h2
   exact (inv.slots.2 y d u h1 h2').mono le
 have hsame : ∀ id, ¬ touchS x id → doneS tr (stAt s0) (addL L i) ops.size id = doneS tr (stAt s0) L ops.size id := fun id h =>
  doneS_agree tr (stAt s0) ops.size (fun j z hj hz ht => hadd (fun q => by subst q; rw [hx] at hz; obtain rfl := Option.some.inj hz; exact h ht))
 have hnew : ∀ id, touchS x id → doneS tr (stAt s0) (addL L i) ops.size id = doneS tr (stAt s0) (addL L i) (i + 1) id := fun id h =>
  doneS_stay tr (stAt s0) (i + 1) ops.size (by omega) (fun j z q1 q2 hz ht => by
   rw [hadd (by omega)]
   refine after (by omega) hz (.inr (clash_of' ?_ (touch_fp ht)))
   rcases touch_fp h with q | q | ⟨l, kc, q, _⟩
   ·exact .inr (.inl q)
   ·exact .inr (.inr (.inl q))
   ·exact .inr (.inr (.inr ⟨l, kc, q⟩)))
 have liveOld : ∀ id, (M.box id ≠ none ∨ ∃ v, M.hist id v ≠ none) → id < s0.length ∨ ∃ (j : Nat) (y : Tr), addL L i j = true ∧ tr[j]? = some y ∧ y.s.length ≤ id ∧ id < y.nextS.length := by
  intro id h
  rcases inv.live id h with q | ⟨j, y, q1, q2, q3, q4⟩
  ·exact .inl q
  ·exact .inr ⟨j, y, by by_cases e : j = i <;> simp [addL, e, q1], q2, q3, q4⟩
 have liveLow : ∀ id, (x.fp = .wr id ∨ ∃ l kc, x.fp = .all l kc) → id < x.s.length → id < s0.length ∨ ∃ (j : Nat) (y : Tr), addL L i j = true ∧ tr[j]? = some y ∧ y.s.length ≤ id ∧ id < y.nextS.length := by
  intro id hfp hid
  rcases Nat.lt_or_ge id s0.length with q | q
  ·exact .inl q
  ·obtain ⟨j, y, b1, b2, b3, b4⟩ := a6 id q hid
   refine .inr ⟨j, y, ?_, b2, b3, b4⟩
   rw [hadd (by omega)]
   refine before b1 b2 (.inr ?_)
   rcases grow_fp b3 b4 with h | ⟨l, kc, h⟩
   ·refine clash_of (id := id) (.inr (.inl h)) ?_
    rcases hfp with h | h
    ·exact .inr (.inl h)
    ·exact .inr (.inr (.inr h))
   ·rcases hfp with h2 | ⟨l2, kc2, h2⟩ <;> rw [h, h2] <;> rfl
 have eff : ∀ {e0 : Eff}, x.e = some e0 → EffOK P x.o (opnd x.t) x.s e0 → wpO P x.o a w K Q := by
  intro e0 he h0
  have hval : x.val = e0.val x.s.length := by unfold Tr.val; rw [he]
  cases e0 with
  | pure d =>
   have hnt : ∀ id, ¬ touchS x id := fun id h => by unfold touchS at h; rw [he] at h; exact h
   refine h0 w0 M own _ w a x.s.length inv.rel hrep trivial K Q fun v M' own' w' le ad hw' hr => hK M' own' w' _ ⟨hclosed, ?_, hslots le (by rw [hval]; exact hr), by rw [put_defers]; exact inv.defers, ?_, inv.le.trans le⟩
   ·rw [show doneS tr (stAt s0) (addL L i) ops.size = doneS tr (stAt s0) L ops.size from funext fun id => hsame id (hnt id)]; exact hw'
   ·intro id h; rw [ad.1, ad.2] at h; exact liveOld id h
  | read k ob d =>
   have hnt : ∀ id, ¬ touchS x id := fun id h => by unfold touchS at h; rw [he] at h; exact h
   have hfp : x.fp = .rd k := by unfold Tr.fp; rw [he]
   refine h0.2 w0 M own _ w a x.s.length inv.rel hrep (by show doneS _ _ _ _ k = ob; rw [F2 k (.inl hfp)]; exact h0.1.1) K Q fun v M' own' w' le ad hw' hr => hK M' own' w' _ ⟨hclosed, ?_, hslots le (by rw [hval]; exact hr), by rw [put_defers]; exact inv.defers, ?_, inv.le.trans le⟩
   ·rw [show doneS tr (stAt s0) (addL L i) ops.size = doneS tr (stAt s0) L ops.size from funext fun id => hsame id (hnt id)]; exact hw'
   ·intro id h; rw [ad.1, ad.2] at h; exact liveOld id h
  | readc k jc d =>
   have hnt : ∀ id, ¬ touchS x id := fun id h => by unfold touchS at h; rw [he] at h; exact h
   have hfp : x.fp = .rdc k jc := by unfold Tr.fp; rw [he]
   refine h0.2 w0 M own _ w a x.s.length inv.rel hrep (by show cellAt (doneS _ _ _ _ k) jc = some d; rw [F3 k jc hfp]; exact h0.1.1) K Q fun v M' own' w' le ad hw' hr => hK M' own' w' _ ⟨hclosed, ?_, hslots le (by rw [hval]; exact hr), by rw [put_defers]; exact inv.defers, ?_, inv.le.trans le⟩
   ·rw [show doneS tr (stAt s0) (addL L i) ops.size = doneS tr (stAt s0) L ops.size from funext fun id => hsame id (hnt id)]; exact hw'
   ·intro id h; rw [ad.1, ad.2] at h; exact liveOld id h
  | upd k ob ob' d =>
   have hfp : x.fp = .wr k := by unfold Tr.fp; rw [he]
   have htk : touchS x k := by unfold touchS; rw [he]
   refine h0.2 w0 M own _ w a x.s.length inv.rel hrep (by show doneS _ _ _ _ k = ob; rw [F2 k (.inr (.inl hfp))]; exact h0.1.1) K Q fun v M' own' w' le ad hw' hr => hK M' own' w' _ ⟨hclosed, ?_, hslots le (by rw [hval]; exact hr), by rw [put_defers]; exact inv.defers, ?_, inv.le.trans le⟩
   ·rw [show doneS tr (stAt s0) (addL L i) ops.size = Eff.post (.upd k ob ob' d) (doneS tr (stAt s0) L ops.size) x.s.length from funext fun id => by
     by_cases e : id = k
     ·subst e
      rw [hnew id htk]
      unfold doneS
      simp only [haddi, hx, he, Eff.post, upd_same]
     ·rw [hsame id (fun h => by unfold touchS at h; rw [he] at h; exact e h)]
      simp only [Eff.post, upd_other e]]
    exact hw'
   ·intro id h
    by_cases e : id = k
    ·subst e; exact liveLow id (.inl hfp) h0.1.2
    ·rw [ad.1, ad.2 id e] at h; exact liveOld id h
  | new ob mk =>
   have htk : touchS x x.s.length := by unfold touchS; rw [he]
   have hnext : x.nextS.length = x.s.length + 1 := by unfold Tr.nextS; rw [he]; simp
   have hfresh : ¬ (M.box x.s.length ≠ none ∨ ∃ v, M.hist x.s.length v ≠ none) := by
    intro h
    rcases inv.live _ h with q | ⟨j, y, q1, q2, q3, q4⟩
    ·omega
    ·rcases Nat.lt_trichotomy j i with c | c | c
     ·have := a5 j y c q2; omega
     ·subst c; rw [hLi] at q1; cases q1
     ·have := (hall j y q2).2.2.2.2.1 i x c hx; omega
   have hf1 : M.box x.s.length = none := by
    cases e : M.box x.s.length with
    | none => rfl
    | some b => exact absurd (.inl (by rw [e]; simp)) hfresh
   have hf2 : ∀ v, M.hist x.s.length v = none := fun v => by
    cases e : M.hist x.s.length v with
    | none => rfl
    | some b => exact absurd (.inr ⟨v, by rw [e]; simp⟩) hfresh
   refine h0 w0 M own _ w a x.s.length inv.rel hrep ⟨hf1, hf2⟩ K Q fun v M' own' w' le ad hw' hr => hK M' own' w' _ ⟨hclosed, ?_, hslots le (by rw [hval]; exact hr), by rw [put_defers]; exact inv.defers, ?_, inv.le.trans le⟩
   ·rw [show doneS tr (stAt s0) (addL L i) ops.size = Eff.post (.new ob mk) (doneS tr (stAt s0) L ops.size) x.s.length from funext fun id => by
     by_cases e : id = x.s.length
     ·subst e
      rw [hnew _ htk]
      unfold doneS
      simp only [haddi, hx, he, Eff.post, upd_same]
     ·rw [hsame id (fun h => by unfold touchS at h; rw [he] at h; exact e h)]
      simp only [Eff.post, upd_other e]]
    exact hw'
   ·intro id h
    by_cases e : id = x.s.length
    ·exact .inr ⟨i, x, haddi, hx, by omega, by omega⟩
    ·rw [ad.1 id e, ad.2 id e] at h; exact liveOld id h
  | all s' d =>
   have hfp : x.fp = .all x.k x.kc := by unfold Tr.fp; rw [he]
   have hta : ∀ id, id ∉ x.k → touchS x id := fun id hk => by unfold touchS; rw [he]; exact hk
   have hkk : ∀ id ∈ x.k, id < x.s.length ∧ x.s.getD id .dead = s'.getD id .dead := by have := hok.2; unfold Tr.kok at this; rw [he] at this; exact this.1
   have hnext : x.nextS = s' := by unfold Tr.nextS; rw [he]
   have hrel : WRel w0 M own (stAt x.s) w := by
    rw [← show doneS tr (stAt s0) L ops.size = stAt x.s from funext fun id => F2 id (.inr (.inr (.inr ⟨_, _, hfp⟩)))]; exact inv.rel
   have hnone : ∀ id, x.s.length ≤ id → ¬ (M.box id ≠ none ∨ ∃ v, M.hist id v ≠ none) := by
    intro id hid h
    rcases inv.live _ h with q | ⟨j, y, q1, q2, q3, q4⟩
    ·omega
    ·have hy : y.fp = .nw id ∨ ∃ l kc, y.fp = .all l kc := grow_fp q3 q4
     rcases Nat.lt_trichotomy j i with c | c | c
     ·have := a5 j y c q2; omega
     ·subst c; rw [hLi] at q1; cases q1
     ·have := after c q2 (.inr (by rw [hfp]; rcases hy with h | ⟨l, kc, h⟩ <;> rw [h] <;> rfl))
      rw [q1] at this; cases this
   have hup : M.upto x.s.length := by
    refine ⟨fun id hid => ?_, fun id v hid => ?_⟩
    ·cases e : M.box id with
     | none => rfl
     | some b => exact absurd (.inl (by rw [e]; simp)) (hnone id hid)
    ·cases e : M.hist id v with
     | none => rfl
     | some b => exact absurd (.inr ⟨v, by rw [e]; simp⟩) (hnone id hid)
   refine h0.2 w0 M own w a hrel hup hrep K Q fun v M' own' w' le up hw' hr => hK M' own' w' _ ⟨hclosed, ?_, hslots le (by rw [hval]; exact hr), by rw [put_defers]; exact inv.defers, ?_, inv.le.trans le⟩
   ·rw [show doneS tr (stAt s0) (addL L i) ops.size = stAt s' from funext fun id => by
     by_cases e1 : id ∈ x.k
     ·rw [hsame id (fun h => by unfold touchS at h; rw [he] at h; exact h e1), F2 id (.inr (.inr (.inr ⟨_, _, hfp⟩)))]
      exact (hkk id e1).2
     ·rw [hnew id (hta id e1)]
      unfold doneS
      simp only [haddi, hx, he, if_neg e1]]
    exact hw'
   ·intro id h
    have hlt : id < s'.length := by
     rcases Nat.lt_or_ge id s'.length with q | q
     ·exact q
     ·rcases h with h | ⟨v, h⟩
      ·exact absurd (up.1 id q) h
      ·exact absurd (up.2 id v q) h
    rcases Nat.lt_or_ge id x.s.length with q | q
    ·exact liveLow id (.inr ⟨_, _, hfp⟩) q
    ·exact .inr ⟨i, x, haddi, hx, q, by rw [hnext]; exact hlt⟩
 unfold wpOpIn
 rw [hat]
 simp only []
 replace hok := hok.1
 unfold Tr.ok0 at hok
 split at hok
 ·rename_i hg
  obtain ⟨e0, he, h0⟩ := hok
  have : Region.wanted x.o (yielded ops a.tmps) = true := by simp [Region.wanted, hg]
  rw [if_pos this]
  exact eff he h0 rr
 ·rename_i j want hg
  have hslot : ∀ k, (ops[j]?).bind (·.dst) = some k → Rep M (x.t.getD k .undef) (a.tmps.getD k undef) := by
   intro k hk
   have : k ∈ looks ops x.o := by
    unfold looks
    refine List.mem_append.2 (.inr ?_)
    rw [hg]
    cases hq : ops[j]? with
    | none => rw [hq] at hk; cases hk
    | some q =>
     rw [hq] at hk
     simp only [Option.bind_some] at hk
     simp only [hq, hk]
     simp
   have h1 := repL_getD inv.slots k
   rw [List.getD_eq_getElem?_getD, F1 k this, ← List.getD_eq_getElem?_getD] at h1
   exact h1
  have skip : x.e = none → Region.wanted x.o (yielded ops a.tmps) = false → (if Region.wanted x.o (yielded ops a.tmps) then x.o.wpIn (FW rr) 0 P a w K Q else (∀ f, x.o.about P w a.eval = some f → (FW rr).fn f) ∧ K (a.put x.o.dst undef) w) := by
   intro he this
   rw [this]
   refine ⟨fun _ _ => trivial, ?_⟩
   have hnt : ∀ id, ¬ touchS x id := fun id h => by unfold touchS at h; rw [he] at h; exact h
   have hval : x.val = .tup [] := by unfold Tr.val; rw [he]
   refine hK M own w _ ⟨hclosed, ?_, hslots (.refl M) (by rw [hval]; exact rep_skip), by rw [put_defers]; exact inv.defers, liveOld, inv.le⟩
   rw [show doneS tr (stAt s0) (addL L i) ops.size = doneS tr (stAt s0) L ops.size from funext fun id => hsame id (hnt id)]
   exact inv.rel
  rcases hok with ⟨b, hb, hcase⟩ | ⟨hb, he⟩
  ·have hy : yielded ops a.tmps j = some b := guard_val (M := M) (t := x.t) hslot hb
   rcases hcase with ⟨rfl, e0, he, h0⟩ | ⟨hne, he⟩
   ·have : Region.wanted x.o (yielded ops a.tmps) = true := by simp [Region.wanted, hg, hy]
    rw [if_pos this]
    exact eff he h0 rr
   ·exact skip he (by simp [Region.wanted, hg, hy, hne])
  ·have hy : yielded ops a.tmps j = none := guard_undef (M := M) (t := x.t) hslot hb
   exact skip he (by simp [Region.wanted, hg, hy])
theorem ready_iff {listed : Array Bool} (hl : listed.size = ops.size) (i : Nat) : i ∈ Region.ready .any ops listed ↔ i < ops.size ∧ listed.getD i false = false ∧ preds ops (fun j => listed.getD j false) i := by
 unfold Region.ready
 rw [List.mem_filter, List.mem_range]
 constructor
 ·rintro ⟨h1, h2⟩
  have ho : ops[i]? = some ops[i] := by simp [h1]
  rw [ho] at h2
  simp only [Option.map_some, Option.getD_some, Bool.and_eq_true, Bool.not_eq_true', Array.all_eq_true_iff_forall_mem] at h2
  refine ⟨h1, ?_, ?_⟩
  ·have := h2.1
   rw [Array.getD_eq_getD_getElem?] at this ⊢
   cases e : listed[i]? with
   | none => rfl
   | some b => rw [e] at this; exact this
  ·intro o hoo e he hb
   rw [ho] at hoo
   obtain rfl := Option.some.inj hoo
   have := h2.2 e (by simpa using he)
   rw [hb] at this
   simpa using this
 ·rintro ⟨h1, h2, h3⟩
  refine ⟨h1, ?_⟩
  have ho : ops[i]? = some ops[i] := by simp [h1]
  rw [ho]
  simp only [Option.map_some, Option.getD_some, Bool.and_eq_true, Bool.not_eq_true', Array.all_eq_true_iff_forall_mem]
  refine ⟨?_, fun e he => ?_⟩
  ·rw [Array.getD_eq_getD_getElem?] at h2 ⊢
   have : listed[i]? = some listed[i] := by simp [hl, h1]
   rw [this] at h2 ⊢
   exact h2
  ·cases hb : Region.binds .any e with
   | false => rfl
   | true =>
    have := h3 _ ho e (by simpa using he) hb
    simpa using this
theorem draw_any (htr : Trace P ops ops.toList t0 s0 tr tn sn) (hd : drawOK ops ((tr.map Tr.fp).reverse ++ []) = true) {Q : Exit → Act → World → Prop}
  (hq : ∀ M' own' w' a', M0.Le M' → M'.upto sn.length → WRel w0 M' own' (stAt sn) w' → RepL M' tn a'.tmps → a'.defers = df → Q .normal a' w') (rr : Option Nat) :
  ∀ (fuel : Nat) (listed : Array Bool) (M : MM) (own : Nat → Option Nat) (w : World) (a : Act), listed.size = ops.size → listed.toList.count false ≤ fuel → DInv df P ops t0 s0 tr w0 M0 (fun j => listed.getD j false) M own w a → wpAnyIn (FW rr) 0 P .any ops Q fuel listed a w := by
 obtain ⟨hlen, hedge, _⟩ := drawOK_out hd
 obtain ⟨hall, hT, hS⟩ := done_all htr
 have fin : ∀ {listed : Array Bool} {M : MM} {own : Nat → Option Nat} {w : World} {a : Act}, (∀ j, j < ops.size → listed.getD j false = true) → DInv df P ops t0 s0 tr w0 M0 (fun j => listed.getD j false) M own w a → Q .normal a w := by
  intro listed M own w a hdone inv
  have e1 : doneT tr t0 (fun j => listed.getD j false) ops.size = tn := by
   rw [← hT, hlen]
   apply List.ext_getElem?
   intro k
   exact doneT_agree tr t0 ops.size (fun j x hj _ _ => hdone j hj)
  have e2 : doneS tr (stAt s0) (fun j => listed.getD j false) ops.size = stAt sn := by
   rw [← hS, hlen]
   funext id
   exact doneS_agree tr (stAt s0) ops.size (fun j x hj _ _ => hdone j hj)
  have hnone : ∀ id, sn.length ≤ id → ¬ (M.box id ≠ none ∨ ∃ v, M.hist id v ≠ none) := by
   intro id hid h
   rcases inv.live _ h with q | ⟨j, y, q1, q2, q3, q4⟩
   ·have := trace_slen htr; omega
   ·have := (hall j y q2).2.2.2.1; omega
  refine hq M own w a inv.le ⟨fun id hid => ?_, fun id v hid => ?_⟩ (e2 ▸ inv.rel) (e1 ▸ inv.slots) inv.defers
  ·cases e : M.box id with
   | none => rfl
   | some b => exact absurd (.inl (by rw [e]; simp)) (hnone id hid)
  ·cases e : M.hist id v with
   | none => rfl
   | some b => exact absurd (.inr ⟨v, by rw [e]; simp⟩) (hnone id hid)
 have nothing : ∀ {listed : Array Bool}, listed.size = ops.size → Region.ready .any ops listed = [] → ∀ j, j < ops.size → listed.getD j false = true := by
  intro listed hl hr j
  induction j using Nat.strongRecOn with
  | _ j ih =>
   intro hj
   cases e : listed.getD j false with
   | true => rfl
   | false =>
    have : j ∈ Region.ready .any ops listed := (ready_iff hl j).2 ⟨hj, e, fun o ho ed he hb => ih ed.on (hedge j o ho ed he hb) (by have := hedge j o ho ed he hb; omega)⟩
    rw [hr] at this
    cases this
 intro fuel
 induction fuel with
 | zero =>
  intro listed M own w a hl hc inv
  have hdone : ∀ j, j < ops.size → listed.getD j false = true := by
   intro j hj
   have h0 : listed.toList.count false = 0 := by omega
   rw [List.count_eq_zero] at h0
   have hj' : j < listed.size := by omega
   rw [Array.getD_eq_getD_getElem?]
   have : listed[j]? = some listed[j] := by simp [hj']
   rw [this]
   cases e : listed[j] with
   | true => simp
   | false => exact absurd (by rw [← e]; simp) h0
  refine ⟨?_, fin hdone inv⟩
  apply List.eq_nil_iff_forall_not_mem.2
  intro i hi
  have := (ready_iff hl i).1 hi
  rw [hdone i this.1] at this
  exact absurd this.2.1 (by simp)
 | succ fuel ih =>
  intro listed M own w a hl hc inv
  refine ⟨fun hr => fin (nothing hl hr) inv, fun i hi => ?_⟩
  obtain ⟨h1, h2, h3⟩ := (ready_iff hl i).1 hi
  have hx : tr[i]? = some (tr[i]'(by omega)) := by simp [show i < tr.length by omega]
  refine step_draw htr hd inv hx h2 h3 (fun M' own' w' a' inv' => ih _ M' own' w' a' (by simp [hl]) ?_ ?_) rr
  ·have hlt : i < listed.toList.length := by simp [hl, h1]
   have hget : listed.toList[i] = false := by
    rw [Array.getD_eq_getD_getElem?] at h2
    have : listed[i]? = some listed[i] := by simp [hl, h1]
    rw [this] at h2
    simpa using h2
   have hset : (listed.setIfInBounds i true).toList = listed.toList.set i true := by simp
   rw [hset, List.count_set hlt]
   have hpos : 0 < listed.toList.count false := List.count_pos_iff.2 (by rw [← hget]; simp)
   rw [hget]
   rw [show (if (false == false) = true then 1 else 0) = 1 from rfl, show (if (true == false) = true then 1 else 0) = 0 from rfl]
   omega
  ·have : (fun j => (listed.setIfInBounds i true).getD j false) = addL (fun j => listed.getD j false) i := by
    funext j
    unfold addL
    simp only [Array.getD_eq_getD_getElem?]
    by_cases e : j = i
    ·subst e; simp [hl, h1]
    ·rw [Array.getElem?_setIfInBounds_ne (Ne.symm e), if_neg e]
   rw [this]
   exact inv'
theorem region_draw (htr : Trace P ops ops.toList t0 s0 tr tn sn) (hd : drawOK ops ((tr.map Tr.fp).reverse ++ []) = true) (hm : P.follows .mixedOrders = true) {M : MM} {own : Nat → Option Nat} {w : World} {a : Act} (id : Nat)
  (hw : WRel w0 M own (stAt s0) w) (hu : M.upto s0.length) (ht : RepL M t0 a.tmps) (hdf : a.defers = df) {Q : Exit → Act → World → Prop} (rr : Option Nat)
  (hq : ∀ M' own' w' a', M.Le M' → M'.upto sn.length → WRel w0 M' own' (stAt sn) w' → RepL M' tn a'.tmps → a'.defers = df → Q .normal a' w') : (Code.region id ops true).wpIn (FW rr) 0 P Q a w := by
 refine wpIn_region_any hm (draw_any (w0 := w0) (M0 := M) htr hd hq rr ops.size _ M own _ a (by simp) ?_ ?_)
 ·rw [Array.toList_replicate]; simp
 ·have hL : ∀ j, (Array.replicate ops.size false).getD j false = false := fun j => by
   rw [Array.getD_eq_getD_getElem?, Array.getElem?_replicate]
   split <;> rfl
  have eT : ∀ k, doneT tr t0 (fun j => (Array.replicate ops.size false).getD j false) k = t0 := by
   intro k
   induction k with
   | zero => rfl
   | succ k ih => unfold doneT; simp only [hL k]; exact ih
  have eS : ∀ k, doneS tr (stAt s0) (fun j => (Array.replicate ops.size false).getD j false) k = stAt s0 := by
   intro k
   induction k with
   | zero => rfl
   | succ k ih => unfold doneS; simp only [hL k]; exact ih
  refine ⟨fun j hj => ?_, ?_, ?_, hdf, ?_, .refl M⟩
  ·rw [hL j] at hj; cases hj
  ·rw [eS]; exact hw.drew
  ·rw [eT]; exact ht
  ·intro id h
   left
   rcases Nat.lt_or_ge id s0.length with q | q
   ·exact q
   ·rcases h with h | ⟨v, h⟩
    ·exact absurd (hu.1 id q) h
    ·exact absurd (hu.2 id v q) h
end
end Go.Ev
