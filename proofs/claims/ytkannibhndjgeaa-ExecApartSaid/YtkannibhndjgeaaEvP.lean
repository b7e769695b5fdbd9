/- The evaluation of code, of a body, of a call in its caller's store is sound. -/
import Derived.Test.YtkannibhndjgeaaEvQ
import Derived.Scope
namespace Go.Ev
open Go Go.RowKit
set_option linter.unusedVariables false
set_option linter.unusedSimpArgs false

/-- What a piece of code comes to: the post-condition of a run. -/
def RunPost (w0 : Base) (M : MM) (ex : Ex) (t' : List D) (s' : List Ob) : Exit → Act → World → Prop :=
  fun e a' w' => ex.is e ∧ ∃ M' own', WRel w0 M' own' (stAt s') w' ∧ M'.upto s'.length ∧ M.Le M' ∧ RepL M' t' a'.tmps ∧ a'.defers = []

theorem runPost_le {w0 : Base} {M M1 : MM} (le : M.Le M1) {ex : Ex} {t' : List D} {s' : List Ob} {e : Exit} {a : Act} {w : World} (h : RunPost w0 M1 ex t' s' e a w) : RunPost w0 M ex t' s' e a w := by
  obtain ⟨h0, M', own', h1, h2, h3, h4, h5⟩ := h
  exact ⟨h0, M', own', h1, h2, le.trans h3, h4, h5⟩

section
variable {P : Program}

theorem CodeRun.skip (t : List D) (s : List Ob) : CodeRun P .skip t s .norm t s :=
  ⟨fun _ M own _ _ hw hu ht hd => wp_skip ⟨trivial, M, own, hw, hu, .refl M, ht, hd⟩, Nat.le_refl _⟩
theorem CodeRun.label (l : Nat) (t : List D) (s : List Ob) : CodeRun P (.label l) t s .norm t s :=
  ⟨fun _ M own _ _ hw hu ht hd => wp_label ⟨trivial, M, own, hw, hu, .refl M, ht, hd⟩, Nat.le_refl _⟩
theorem CodeRun.exit (i : Nat) (t : List D) (s : List Ob) : CodeRun P (.exit i) t s (.exit i) t s :=
  ⟨fun _ M own _ _ hw hu ht hd => wp_exit ⟨rfl, M, own, hw, hu, .refl M, ht, hd⟩, Nat.le_refl _⟩
theorem CodeRun.retC (t : List D) (s : List Ob) : CodeRun P .ret t s .ret t s :=
  ⟨fun _ M own _ _ hw hu ht hd => wp_ret ⟨trivial, M, own, hw, hu, .refl M, ht, hd⟩, Nat.le_refl _⟩
theorem CodeRun.seqN {x y : Code} {t t1 t2 : List D} {s s1 s2 : List Ob} {ex : Ex} (h : CodeRun P x t s .norm t1 s1) (k : CodeRun P y t1 s1 ex t2 s2) : CodeRun P (.seq x y) t s ex t2 s2 := by
  refine ⟨fun w0 M own w a hw hu ht hd => wp_seq (wp_mono (h.run w0 M own w a hw hu ht hd) ?_), Nat.le_trans h.len k.len⟩
  rintro e a' w' ⟨h0, M', own', h1, h2, h3, h4, h5⟩
  cases e <;> simp only [Ex.is] at h0
  exact wp_mono (k.run w0 M' own' w' a' h1 h2 h4 h5) fun e a w hh => runPost_le h3 hh
theorem CodeRun.seqX {x y : Code} {t t1 : List D} {s s1 : List Ob} {ex : Ex} (h : CodeRun P x t s ex t1 s1) (hx : ex ≠ .norm) : CodeRun P (.seq x y) t s ex t1 s1 := by
  refine ⟨fun w0 M own w a hw hu ht hd => wp_seq (wp_mono (h.run w0 M own w a hw hu ht hd) ?_), h.len⟩
  rintro e a' w' ⟨h0, h1⟩
  cases ex with
  | norm => exact absurd rfl hx
  | exit i => cases e <;> simp only [Ex.is] at h0; exact ⟨h0, h1⟩
  | ret => cases e <;> simp only [Ex.is] at h0; exact ⟨h0, h1⟩
theorem CodeRun.cond {c : Operand} {x y : Code} {t t1 : List D} {s s1 : List Ob} {ex : Ex} {b : Bool} (hb : opnd t c = .bool b) (h : CodeRun P (if b then x else y) t s ex t1 s1) : CodeRun P (.cond c x y) t s ex t1 s1 := by
  refine ⟨fun w0 M own w a hw hu ht hd => wp_cond (t := b) ?_ (h.run w0 M own w a hw hu ht hd), h.len⟩
  have hr := rep_opnd ht c
  rw [hb] at hr
  generalize hv : a.eval c = v at hr
  cases hr
  rfl
theorem CodeRun.blockN {id : Nat} {x : Code} {t t1 : List D} {s s1 : List Ob} (h : CodeRun P x t s (.exit id) t1 s1) : CodeRun P (.block id x) t s .norm t1 s1 := by
  refine ⟨fun w0 M own w a hw hu ht hd => wp_block (wp_mono (h.run w0 M own w a hw hu ht hd) ?_), h.len⟩
  rintro e a' w' ⟨h0, h1⟩
  cases e <;> simp only [Ex.is] at h0
  subst h0
  simp only [Exit.inBlock, if_true]
  exact ⟨trivial, h1⟩
theorem CodeRun.blockX {id : Nat} {x : Code} {t t1 : List D} {s s1 : List Ob} {ex : Ex} (h : CodeRun P x t s ex t1 s1) (hx : ∀ i, ex = .exit i → i ≠ id) : CodeRun P (.block id x) t s ex t1 s1 := by
  refine ⟨fun w0 M own w a hw hu ht hd => wp_block (wp_mono (h.run w0 M own w a hw hu ht hd) ?_), h.len⟩
  rintro e a' w' ⟨h0, h1⟩
  cases ex with
  | norm => cases e <;> simp only [Ex.is] at h0; exact ⟨h0, h1⟩
  | exit i =>
    cases e <;> simp only [Ex.is] at h0
    subst h0
    simp only [Exit.inBlock, if_neg (hx _ rfl)]
    exact ⟨rfl, h1⟩
  | ret => cases e <;> simp only [Ex.is] at h0; exact ⟨h0, h1⟩
theorem CodeRun.scope {x : Code} {t t1 : List D} {s s1 : List Ob} {ex : Ex} (h : CodeRun P x t s ex t1 s1) : CodeRun P (.scope x) t s ex t1 s1 := by
  refine ⟨fun w0 M own w a hw hu ht hd => wp_scope_straight (wp_mono (h.run w0 M own w a hw hu ht hd) ?_), h.len⟩
  rintro e a' w' ⟨h0, h1⟩
  cases ex <;> cases e <;> simp only [Ex.is] at h0 <;> exact ⟨h0, h1⟩
theorem CodeRun.text {id : Nat} {ops : Array Oper} {t t1 : List D} {s s1 : List Ob} {tr : List Tr} (h : Trace P ops ops.toList t s tr t1 s1) : CodeRun P (.region id ops false) t s .norm t1 s1 := by
  refine ⟨fun w0 M own w a hw hu ht hd => wp_region ?_, trace_slen h⟩
  rw [List.range_eq_range', show ops.size = ops.toList.length by simp]
  exact region_text h 0 rfl hw hu ht hd fun M' own' w' a' le up hw' ht' hd' => ⟨trivial, M', own', hw', up, le, ht', hd'⟩
theorem CodeRun.draw {id : Nat} {ops : Array Oper} {t t1 : List D} {s s1 : List Ob} {tr : List Tr} (hm : P.follows .mixedOrders = true) (h : Trace P ops ops.toList t s tr t1 s1) (hd : drawOK ops ((tr.map Tr.fp).reverse ++ []) = true) : CodeRun P (.region id ops true) t s .norm t1 s1 :=
  ⟨fun _ _ _ _ _ hw hu ht hdf => region_draw h hd hm id hw hu ht hdf fun M' own' _ _ le up hw' ht' hd' => ⟨trivial, M', own', hw', up, le, ht', hd'⟩, trace_slen h⟩

variable {ρ' : Type} {r : ρ'}
theorem codec_out {inl : Inl P ρ'} (hinl : InlSound P inl) (hm : P.follows .mixedOrders = true) : ∀ (c : Code) {t : List D} {s : List Ob} {z : Z P} {K : Ex → List D → List Ob → Z P → Option ρ'}, codec P inl c t s z K = some r →
    ∃ ex t' s' z', K ex t' s' z' = some r ∧ (z'.c → z.c ∧ CodeRun P c t s ex t' s')
  | .skip, t, s, z, K, h => ⟨_, _, _, z, by simpa only [codec] using h, fun c => ⟨c, .skip t s⟩⟩
  | .label l, t, s, z, K, h => ⟨_, _, _, z, by simpa only [codec] using h, fun c => ⟨c, .label l t s⟩⟩
  | .exit i, t, s, z, K, h => ⟨_, _, _, z, by simpa only [codec] using h, fun c => ⟨c, .exit i t s⟩⟩
  | .ret, t, s, z, K, h => ⟨_, _, _, z, by simpa only [codec] using h, fun c => ⟨c, .retC t s⟩⟩
  | .scope x, t, s, z, K, h => by
    rw [codec] at h
    obtain ⟨ex, t', s', z', h1, h2⟩ := codec_out hinl hm x h
    exact ⟨ex, t', s', z', h1, fun c => ⟨(h2 c).1, (h2 c).2.scope⟩⟩
  | .region id ops draw, t, s, z, K, h => by
    rw [codec] at h
    obtain ⟨tr, t', s', z', h1, h2⟩ := opsc_trace hinl h
    split at h1
    · exact ⟨_, _, _, z', h1, fun c => ⟨(h2 c).1, .text (h2 c).2⟩⟩
    · obtain ⟨hd, h1⟩ := chk_out h1
      exact ⟨_, _, _, z', h1, fun c => ⟨(h2 c).1, .draw hm (h2 c).2 hd⟩⟩
  | .seq x y, t, s, z, K, h => by
    rw [codec] at h
    obtain ⟨ex, t1, s1, z1, h1, h2⟩ := codec_out hinl hm x h
    split at h1
    · obtain ⟨ex', t2, s2, z2, h3, h4⟩ := codec_out hinl hm y h1
      exact ⟨ex', t2, s2, z2, h3, fun c => ⟨(h2 (h4 c).1).1, (h2 (h4 c).1).2.seqN (h4 c).2⟩⟩
    · rename_i hne
      exact ⟨_, _, _, z1, h1, fun c => ⟨(h2 c).1, (h2 c).2.seqX hne⟩⟩
  | .cond q x y, t, s, z, K, h => by
    rw [codec] at h
    split at h
    · rename_i b hb
      obtain ⟨z1, ⟨h1, h2⟩ | ⟨h1, h2⟩⟩ := branch_out h
      · obtain ⟨ex, t', s', z', h3, h4⟩ := codec_out hinl hm x h1
        exact ⟨ex, t', s', z', h3, fun c => ⟨(h2 (h4 c).1).1, .cond (b := true) (by rw [hb, (h2 (h4 c).1).2]) (h4 c).2⟩⟩
      · obtain ⟨ex, t', s', z', h3, h4⟩ := codec_out hinl hm y h1
        exact ⟨ex, t', s', z', h3, fun c => ⟨(h2 (h4 c).1).1, .cond (b := false) (by rw [hb, (h2 (h4 c).1).2]) (h4 c).2⟩⟩
    · cases h
  | .block id x, t, s, z, K, h => by
    rw [codec] at h
    obtain ⟨ex, t1, s1, z1, h1, h2⟩ := codec_out hinl hm x h
    split at h1
    · rename_i i
      split at h1
      · rename_i hi
        have hi : i = id := by simpa using hi
        subst hi
        exact ⟨_, _, _, z1, h1, fun c => ⟨(h2 c).1, (h2 c).2.blockN⟩⟩
      · rename_i hi
        have hi : i ≠ id := fun e => by subst e; simp at hi
        exact ⟨_, _, _, z1, h1, fun c => ⟨(h2 c).1, (h2 c).2.blockX fun j hj => by cases hj; exact hi⟩⟩
    · rename_i hne
      exact ⟨_, _, _, z1, h1, fun c => ⟨(h2 c).1, (h2 c).2.blockX fun j hj => absurd hj (hne j)⟩⟩
  | .loop x, t, s, z, K, h => by
    rw [codec] at h
    split at h
    · obtain ⟨ex, t', s', z', h1, h2⟩ := iter_out (c := x) (fun h => codec_out hinl hm x h) h
      exact ⟨ex, t', s', z', h1, fun k => ⟨(h2 k).1, .of_rounds (h2 k).2⟩⟩
    · rename_i sp n0 c' t1 s1 ex t2 s2 hg rest _
      split at h
      · rename_i t' s' hh
        obtain ⟨hn, h'⟩ := chk_out h
        rw [Nat.beq_eq] at hn
        subst hn
        exact ⟨ex, t2, s2, _, h', fun k => ⟨k.2, .of_head (k.1.1 ▸ k.1.2.1 ▸ k.1.2.2 ▸ hg) hh⟩⟩
      · cases h
    · rename_i c' t1 s1 ex t2 s2 hg rest _
      exact ⟨ex, t2, s2, _, h, fun k => ⟨k.2, k.1.1 ▸ k.1.2.1 ▸ k.1.2.2 ▸ hg⟩⟩
    · cases h
  | .rangeFunc f p a b, t, s, z, K, h => by
    rw [codec] at h
    split at h
    · rename_i c' t1 s1 ex t2 s2 hg rest _
      exact ⟨ex, t2, s2, _, h, fun k => ⟨k.2, k.1.1 ▸ k.1.2.1 ▸ k.1.2.2 ▸ hg⟩⟩
    · cases h
    all_goals (intros; rename_i q; cases q)
  | .goto l, t, s, z, K, h => by
    rw [codec] at h
    split at h
    · rename_i c' t1 s1 ex t2 s2 hg rest _
      exact ⟨ex, t2, s2, _, h, fun k => ⟨k.2, k.1.1 ▸ k.1.2.1 ▸ k.1.2.2 ▸ hg⟩⟩
    · cases h
    all_goals (intros; rename_i q; cases q)
  | .refuse y, t, s, z, K, h => by
    rw [codec] at h
    split at h
    · rename_i c' t1 s1 ex t2 s2 hg rest _
      exact ⟨ex, t2, s2, _, h, fun k => ⟨k.2, k.1.1 ▸ k.1.2.1 ▸ k.1.2.2 ▸ hg⟩⟩
    · cases h
    all_goals (intros; rename_i q; cases q)

/-! ### Results -/
def resF (tmps : Array Value) : ResultVar → Sem Value
  | .tmp t => pure (tmps.getD t undef)
  | .cell a t => do loadVar t (← asAddr (tmps.getD a undef))
theorem results_eq (fn : Func) (tmps : Array Value) : results fn tmps = (do
    let vs ← fn.results.mapM (resF tmps)
    pure (if h : vs.size = 1 then vs[0] else .tuple vs)) := by
  unfold results
  rfl

theorem resOne_run {w0 : Base} {M : MM} {own : Nat → Option Nat} {w : World} {t : List D} {s : List Ob} {tmps : Array Value} (hw : WRel w0 M own (stAt s) w) (ht : RepL M t tmps) {x : ResultVar} {d : D} (h : resOne P t s x = some d) :
    ∃ v, Rep M d v ∧ (resF tmps x).run P w = .ok v w := by
  cases x with
  | tmp i =>
    simp only [resOne, Option.some.injEq] at h
    subst h
    exact ⟨_, repL_getD ht i, by simp [resF]⟩
  | cell a ty =>
    simp only [resOne] at h
    split at h
    · rename_i dyn id off hp
      split at h
      · rename_i cs hb
        have hx := repL_getD ht a
        rw [hp] at hx
        generalize hv : tmps.getD a undef = v at hx
        cases hx with
        | ptr _ hbx =>
          rename_i b'
          obtain ⟨b, vs, tt, k⟩ := hw.box id cs hb
          rw [k.box] at hbx
          obtain rfl := Option.some.inj hbx
          have hcell : ∀ j c, cs[j]? = some c → w.cell? ⟨b, 0 + j, none⟩ = some (vs.getD j .nilFunc) ∧ Rep M c (vs.getD j .nilFunc) := by
            intro j c hj
            obtain ⟨u, hu, hru⟩ := RepL.get ⟨k.len, k.rep⟩ hj
            rw [Array.getD_eq_getD_getElem?, hu]
            refine ⟨?_, hru⟩
            simp [World.cell?, k.blk, hu]
          have hp' : PartOK P ty cs off d := by
            split at h
            · rename_i e he
              split at h
              · rename_i ha
                split at h
                · rename_i hk
                  simp only [Bool.and_eq_true, Nat.ble_eq] at hk
                  exact ⟨e, he, .inl ⟨ha, hk.2, (Option.some.inj h).symm⟩⟩
                · cases h
              · rename_i ha
                exact ⟨e, he, .inr ⟨ha, h⟩⟩
            · cases h
          obtain ⟨u, h1, h2⟩ := run_loadVar_ok hp' (fun j => vs.getD j .nilFunc) hcell
          rw [Nat.zero_add] at h1
          refine ⟨u, h2, ?_⟩
          simp only [resF, hv, asAddr, Sem.run_bind, Sem.run_pure, Result.andThen_ok, h1]
      · cases h
    · cases h

theorem resL_run {w0 : Base} {M : MM} {own : Nat → Option Nat} {w : World} {t : List D} {s : List Ob} {tmps : Array Value} (hw : WRel w0 M own (stAt s) w) (ht : RepL M t tmps) : ∀ {l : List ResultVar} {ds : List D}, resL P t s l = some ds →
    ∃ vs : List Value, ds.length = vs.length ∧ (∀ (i : Nat) (d : D) (v : Value), ds[i]? = some d → vs[i]? = some v → Rep M d v) ∧ Sem.run P (List.mapM (resF tmps) l) w = .ok vs w
  | [], ds, h => by
    simp only [resL, Option.some.injEq] at h
    subst h
    exact ⟨[], rfl, fun i d v h => by simp at h, by simp⟩
  | x :: l, ds, h => by
    simp only [resL] at h
    split at h
    · rename_i d ds' hd hl
      obtain rfl := Option.some.inj h
      obtain ⟨v, h1, h2⟩ := resOne_run hw ht hd
      obtain ⟨vs, k1, k2, k3⟩ := resL_run hw ht hl
      refine ⟨v :: vs, by simp [k1], ?_, ?_⟩
      · intro i d' v' a b
        cases i with
        | zero => simp at a b; subst a b; exact h1
        | succ i => simp at a b; exact k2 i d' v' a b
      · rw [List.mapM_cons, Sem.run_bind, h2, Result.andThen_ok, Sem.run_bind, k3, Result.andThen_ok, Sem.run_pure]
    · cases h

theorem results_run {w0 : Base} {M : MM} {own : Nat → Option Nat} {w : World} {t : List D} {s : List Ob} {tmps : Array Value} {fn : Func} (hw : WRel w0 M own (stAt s) w) (ht : RepL M t tmps) {ds : List D} (h : resL P t s fn.results.toList = some ds) :
    ∃ v, Rep M (resD ds) v ∧ (results fn tmps).run P w = .ok v w := by
  obtain ⟨vs, k1, k2, k3⟩ := resL_run hw ht h
  have e : (results fn tmps).run P w = .ok (if h : vs.length = 1 then vs[0] else .tuple vs.toArray) w := by
    have hr : fn.results = fn.results.toList.toArray := by simp
    rw [results_eq, hr, List.mapM_toArray, Sem.run_bind]
    rw [show (List.toArray <$> List.mapM (resF tmps) fn.results.toList : Sem (Array Value)).run P w = .ok vs.toArray w by
      rw [map_eq_pure_bind, Sem.run_bind, k3]; simp]
    simp
  refine ⟨_, ?_, e⟩
  cases ds with
  | nil =>
    cases vs with
    | nil => simp only [resD]; exact .tup rfl (fun i d v a => by simp at a)
    | cons a b => simp at k1
  | cons d ds =>
    cases ds with
    | nil =>
      cases vs with
      | nil => simp at k1
      | cons a b =>
        cases b with
        | nil => simp only [resD]; exact k2 0 d a rfl rfl
        | cons b c => simp at k1
    | cons d2 ds =>
      cases vs with
      | nil => simp at k1
      | cons a b =>
        cases b with
        | nil => simp at k1
        | cons b c => simp only [resD]; exact .tup (by simpa using k1) (fun i d v p q => k2 i d v p (by simpa using q))

/-! ### A body; a call in its caller's store -/
theorem bodyc_out {inl : Inl P ρ'} (hinl : InlSound P inl) (hm : P.follows .mixedOrders = true) {f : FuncId} {fn : Func} (hf : P.funcs[f]? = some fn) (hn : (fn.name == "runtime.NumGoroutine") = false)
    {args : List D} {s : List Ob} {z : Z P} {K : D → List Ob → Z P → Option ρ'} (h : bodyc P inl fn args s z K = some r) : ∃ d s' z', K d s' z' = some r ∧ (z'.c → z.c ∧ CallRun P f args s d s') := by
  unfold bodyc at h
  split at h
  · rename_i c hc
    obtain ⟨hle, h⟩ := chk_out h
    rw [forceL_eq] at h
    obtain ⟨ex, t', s', z', h1, h2⟩ := codec_out hinl hm c h
    have main : ∀ {l}, resL P t' s' fn.results.toList = some l → (∀ i, ex ≠ .exit i) → CodeRun P c (args ++ List.replicate (fn.ntmps - args.length) .undef) s ex t' s' → CallRun P f args s (resD l) s' := by
      intro l hl hex hrun
      refine ⟨⟨fn, c, hf, hc, hn⟩, hrun.len, ?_⟩
      intro w0 M own w vs hw hu ha
      refine calls_of_wp hf hc (wp_mono (hrun.run w0 M own w _ hw hu ?_ rfl) ?_)
      · refine ha.append ⟨by simp [ha.1], fun i d v p q => ?_⟩
        rw [List.getElem?_replicate] at p
        split at p
        · obtain rfl := Option.some.inj p; exact .undef v
        · cases p
      · rintro e a' w' ⟨h0, M', own', q1, q2, q3, q4, q5⟩
        obtain ⟨v, r1, r2⟩ := results_run q1 q4 hl
        cases ex with
        | exit i => exact absurd rfl (hex i)
        | norm => cases e <;> simp only [Ex.is] at h0; exact ⟨q5, v, r2, v, M', own', rfl, q1, q2, q3, r1⟩
        | ret => cases e <;> simp only [Ex.is] at h0; exact ⟨q5, v, r2, v, M', own', rfl, q1, q2, q3, r1⟩
    split at h1
    · cases h1
    · rename_i hex
      split at h1
      · rename_i l hl
        exact ⟨_, _, z', h1, fun c => ⟨(h2 c).1, main hl (fun i hi => hex i hi) (h2 c).2⟩⟩
      · cases h1
  · cases h

theorem inlN_sound (hm : P.follows .mixedOrders = true) : ∀ n : Nat, InlSound P (inlN (ρ := ρ') P n)
  | 0 => fun g args s z K r h => by simp [inlN] at h
  | n + 1 => fun g args s z K r h => by
    rw [inlN] at h
    simp only [] at h
    split at h
    · rename_i fn hf
      obtain ⟨hn, h⟩ := chk_out h
      exact bodyc_out (inlN_sound hm n) hm hf (by simpa using hn) h
    · cases h
end

end Go.Ev

/- From an evaluation to a contract of a function, and to a run of a piece of code. -/
namespace Go.Ev
open Go Go.RowKit
set_option linter.unusedVariables false
set_option linter.unusedSimpArgs false

section
variable {P : Program}

theorem rep_outFlag {M : MM} {s : List Ob} {d : D} {v : Value} (h : Rep M d v) (hc : d.clean = true) : Rep (bareOf M.cell) (outFlag s d) v := by
  unfold outFlag
  split
  · rename_i id ver sz xs
    have h1 := h.toBare hc
    have : ∀ o : Own, (o = .no ∨ ∃ k, o = .fresh k) → Rep (bareOf M.cell) (.lst o sz xs) v := by
      intro o ho
      cases h1 with
      | lst b off vs hl hcap ha hsz hcc hr hst _ => exact .lst b off vs hl hcap ha hsz hcc hr hst (by rcases ho with rfl | ⟨k, rfl⟩ <;> trivial)
    split
    · split
      · exact this _ (.inr ⟨_, rfl⟩)
      · exact this _ (.inl rfl)
    · exact this _ (.inl rfl)
  · exact h.toBare hc

theorem demote_fresh {d : D} {sz sz' : Nat} {xs : List D} : d.demote ≠ .lst (.fresh sz) sz' xs := by
  intro h
  cases d <;> simp only [D.demote, reduceCtorEq] at h
  case lst o _ _ => cases o <;> simp [Own.demote] at h
theorem outFlag_fresh {w0 : Base} {M : MM} {own : Nat → Option Nat} {w : World} {s : List Ob} (hw : WRel w0 M own (stAt s) w) {d : D} {v : Value} (h : Rep M d v) {sz sz' : Nat} {xs : List D} (e : outFlag s d = .lst (.fresh sz) sz' xs) :
    ∃ a len cap, v = .slice a len cap ∧ sz' = sz ∧ FreshRoom w0.w.heap.size w M.cell sz a len cap := by
  unfold outFlag at e
  split at e
  · rename_i id ver sz0 xs0
    split at e
    · rename_i v' sz2 hs
      split at e
      · rename_i hb
        simp only [Bool.and_eq_true, Nat.beq_eq] at hb
        obtain ⟨rfl, rfl⟩ := hb
        simp only [D.lst.injEq, Own.fresh.injEq] at e
        obtain ⟨rfl, rfl, rfl⟩ := e
        obtain ⟨a, len, cap, k⟩ := hw.fam id ver sz0 hs
        cases h with
        | lst b off vs hl hcap ha hsz hcc hr hst ho =>
          have : M.hist id ver = some _ := ho
          rw [k.hist] at this
          obtain ⟨rfl, rfl, rfl⟩ := Value.slice.inj (Option.some.inj this)
          refine ⟨_, _, _, rfl, rfl, ?_⟩
          rcases k.room with q | ⟨b, vs, ty, fz, q, r⟩
          · exact .inl q
          · exact .inr ⟨b, vs, ty, fz, q, r.base, r.blk, r.fz, r.cap, r.none⟩
      · cases e
    · cases e
  · exact absurd e demote_fresh

theorem rep_outD {w0 : Base} {M : MM} {own : Nat → Option Nat} {w : World} {s : List Ob} (hw : WRel w0 M own (stAt s) w) {d : D} {v : Value} (h : Rep M d v) (hc : d.clean = true) : Rep (bareOf M.cell) (outD s d) v ∧ FreshD w0.w.heap.size w M.cell (outD s d) v := by
  by_cases ht : ∃ ds, d = .tup ds
  · obtain ⟨ds, rfl⟩ := ht
    cases h with
    | tup hl r =>
      rename_i vs
      rw [D.clean, D.cleanL_eq, List.all_eq_true] at hc
      refine ⟨.tup (by simpa using hl) ?_, ?_, ?_⟩
      · intro i d v a b
        rw [List.getElem?_map, Option.map_eq_some_iff] at a
        obtain ⟨d0, h0, rfl⟩ := a
        exact rep_outFlag (r i d0 v h0 b) (hc _ (List.mem_of_getElem? h0))
      · intro sz sz' xs e; simp [outD] at e
      · intro ds' vs' e1 e2 i sz sz' xs hi
        simp only [outD, D.tup.injEq] at e1
        obtain rfl := Value.tuple.inj e2
        subst e1
        rw [List.getElem?_map, Option.map_eq_some_iff] at hi
        obtain ⟨d0, h0, e⟩ := hi
        have hlt : i < vs.size := by
          rw [← hl]
          rcases Nat.lt_or_ge i ds.length with q | q
          · exact q
          · rw [List.getElem?_eq_none q] at h0; cases h0
        obtain ⟨a, len, cap, k1, k2, k3⟩ := outFlag_fresh hw (r i d0 vs[i] h0 (by simp [hlt])) e
        exact ⟨a, len, cap, by simp [hlt, k1], k2, k3⟩
  · have e : outD s d = outFlag s d := by
      cases d <;> first | rfl | exact absurd ⟨_, rfl⟩ ht
    rw [e]
    refine ⟨rep_outFlag h hc, fun sz sz' xs q => outFlag_fresh hw h q, fun ds vs q => ?_⟩
    exfalso
    unfold outFlag at q
    split at q
    · split at q
      · split at q <;> cases q
      · cases q
    · cases d <;> simp only [D.demote, reduceCtorEq] at q
      exact ht ⟨_, rfl⟩

/-- THE WAY from an evaluation to a contract. -/
theorem Ret.of_eval (hm : P.follows .mixedOrders = true) {f : FuncId} {fn : Func} (hf : P.funcs[f]? = some fn) (hn : (fn.name == "runtime.NumGoroutine") = false) {args : List D} {d : D} (o : List (Ev P))
    (h : evalRet P fn args o = some (d, selfs o True)) : Ret P f args d := by
  unfold evalRet at h
  obtain ⟨d0, s', z', h1, h2⟩ := bodyc_out (inlN_sound hm 20) hm hf hn h
  obtain ⟨hc, h1⟩ := chk_out h1
  split at h1
  · simp only [Option.some.injEq, Prod.mk.injEq] at h1
    obtain ⟨rfl, hz⟩ := h1
    have hrun := (h2 (by rw [hz]; exact selfs_true o trivial)).2
    refine ⟨hrun.ent, fun w C vs hC ha => Calls.mono (hrun.run ⟨w, C⟩ (bareOf C) (fun _ => none) w vs ?_ ⟨fun _ _ => rfl, fun _ _ _ => rfl⟩ ha) ?_⟩
    · refine ⟨.refl _ _, hC, ?_, ?_, ?_, ?_, ?_⟩
      · intro b o v k _; exact k
      · intro b i k; cases k
      · intro i cs k; simp [stAt] at k
      · intro i v sz k; simp [stAt] at k
      · intro i k es q; simp [stAt] at q
    · rintro e w' ⟨v, M', own', rfl, q1, q2, q3, q4⟩
      obtain ⟨r1, r2⟩ := rep_outD q1 q4 hc
      exact ⟨v, M'.cell, rfl, ⟨q1.below, q3.cell, q1.old, q1.cells⟩, r1, r2⟩
  · cases h1

/-- A contract for equal arguments and an equal result. -/
theorem Ret.cast {f : FuncId} {args args' : List D} {d d' : D} (h : Ret P f args d) (ha : args = args') (hd : d = d') : Ret P f args' d' := ha ▸ hd ▸ h

/-- The way from an evaluation to a run of a piece of code. -/
theorem CodeRun.of_eval (hm : P.follows .mixedOrders = true) {c : Code} {t : List D} {s : List Ob} {ex : Ex} {t' : List D} {s' : List Ob} (o : List (Ev P))
    (h : evalCode P c t s o = some ((ex, t', s'), selfs o True)) : CodeRun P c t s ex t' s' := by
  unfold evalCode at h
  obtain ⟨ex1, t1, s1, z', h1, h2⟩ := codec_out (inlN_sound hm 20) hm c h
  split at h1
  · simp only [Option.some.injEq, Prod.mk.injEq] at h1
    obtain ⟨⟨rfl, rfl, rfl⟩, hz⟩ := h1
    exact (h2 (by rw [hz]; exact selfs_true o trivial)).2
  · cases h1

/-- What a round's evaluation tells. -/
structure RoundRun (P : Program) (c : Code) (sp : HS) (n0 : Nat) (t : List D) (s : List Ob) (ex : Ex) (t' : List D) (s' : List Ob) : Prop where
  run : ∃ t1 s1, CodeRun P c t s ex t1 s1 ∧ headc sp n0 t1 s1 = some (t', s')
theorem RoundRun.of_eval (hm : P.follows .mixedOrders = true) {c : Code} {sp : HS} {n0 : Nat} {t : List D} {s : List Ob} {ex : Ex} {t' : List D} {s' : List Ob} (o : List (Ev P))
    (h : evalRound P c sp n0 t s o = some ((ex, t', s'), selfs o True)) : RoundRun P c sp n0 t s ex t' s' := by
  unfold evalRound at h
  obtain ⟨ex1, t1, s1, z', h1, h2⟩ := codec_out (inlN_sound hm 20) hm c h
  split at h1
  · split at h1
    · rename_i t2 s2 hh
      simp only [Option.some.injEq, Prod.mk.injEq] at h1
      obtain ⟨⟨rfl, rfl, rfl⟩, hz⟩ := h1
      exact ⟨t1, s1, (h2 (by rw [hz]; exact selfs_true o trivial)).2, hh⟩
    · cases h1
  · cases h1
theorem Rounds.more {c : Code} {sp : HS} {n0 : Nat} {t t2 : List D} {s s2 : List Ob} {ex : Ex} {t' : List D} {s' : List Ob} (h : RoundRun P c sp n0 t s .norm t2 s2) (k : Rounds P c n0 t2 s2 ex t' s') : Rounds P c n0 t s ex t' s' :=
  let ⟨_, _, h1, h2⟩ := h.run
  .again sp h1 h2 k
theorem Rounds.last {c : Code} {sp : HS} {n0 : Nat} {t : List D} {s : List Ob} {ex : Ex} {t' : List D} {s' : List Ob} (h : RoundRun P c sp n0 t s ex t' s') (hx : ex ≠ .norm) : Rounds P c n0 t s ex t' s' :=
  let ⟨_, _, h1, h2⟩ := h.run
  .out sp h1 hx h2

end
end Go.Ev
