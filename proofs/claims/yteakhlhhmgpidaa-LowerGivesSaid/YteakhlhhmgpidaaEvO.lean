/- The evaluation of code, of a body, of a call in its caller's store is sound. -/
import Derived.Test.YteakhlhhmgpidaaEvQ
import Derived.Scope
namespace Go.Ev
open Go Go.RowKit
set_option linter.unusedVariables false
set_option linter.unusedSimpArgs false

/-- What a piece of code comes to: the post-condition of a run. -/
def RunPost (w0 : Base) (M : MM) (ex : Ex) (t' : List D) (s' : List Ob) : Exit → Act → World → Prop :=
  fun e a' w' => ex.is e ∧ ∃ M' own', WRel w0 M' own' (stAt s') w' ∧ M'.upto s'.length ∧ M.Le M' ∧ RepL M' t' a'.tmps ∧ a'.defers = []

theorem runPost_le {w0 : Base} {M M1 : MM} (le : M.Le M1) {ex : Ex} {t' : List D} {s' : List Ob} {e : Exit} {a : Act} {w : World} (h : RunPost w0 M1 ex t' s' e a w) : RunPost w0 M ex t' s' e a w := by
  obtain ⟨h0, M', own', h1, h2, h3, h4, h5⟩ := h
  exact ⟨h0, M', own', h1, h2, le.trans h3, h4, h5⟩

section
variable {P : Program}

theorem CodeRun.skip (t : List D) (s : List Ob) : CodeRun P .skip t s .norm t s :=
  ⟨fun _ M own _ _ hw hu ht hd => wp_skip ⟨trivial, M, own, hw, hu, .refl M, ht, hd⟩, Nat.le_refl _⟩
theorem CodeRun.label (l : Nat) (t : List D) (s : List Ob) : CodeRun P (.label l) t s .norm t s :=
  ⟨fun _ M own _ _ hw hu ht hd => wp_label ⟨trivial, M, own, hw, hu, .refl M, ht, hd⟩, Nat.le_refl _⟩
theorem CodeRun.exit (i : Nat) (t : List D) (s : List Ob) : CodeRun P (.exit i) t s (.exit i) t s :=
  ⟨fun _ M own _ _ hw hu ht hd => wp_exit ⟨rfl, M, own, hw, hu, .refl M, ht, hd⟩, Nat.le_refl _⟩
theorem CodeRun.retC (t : List D) (s : List Ob) : CodeRun P .ret t s .ret t s :=
  ⟨fun _ M own _ _ hw hu ht hd => wp_ret ⟨trivial, M, own, hw, hu, .refl M, ht, hd⟩, Nat.le_refl _⟩
theorem CodeRun.seqN {x y : Code} {t t1 t2 : List D} {s s1 s2 : List Ob} {ex : Ex} (h : CodeRun P x t s .norm t1 s1) (k : CodeRun P y t1 s1 ex t2 s2) : CodeRun P (.seq x y) t s ex t2 s2 := by
  refine ⟨fun w0 M own w a hw hu ht hd => wp_seq (wp_mono (h.run w0 M own w a hw hu ht hd) ?_), Nat.le_trans h.len k.len⟩
  rintro e a' w' ⟨h0, M', own', h1, h2, h3, h4, h5⟩
  cases e <;> simp only [Ex.is] at h0
  exact wp_mono (k.run w0 M' own' w' a' h1 h2 h4 h5) fun e a w hh => runPost_le h3 hh
theorem CodeRun.seqX {x y : Code} {t t1 : List D} {s s1 : List Ob} {ex : Ex} (h : CodeRun P x t s ex t1 s1) (hx : ex ≠ .norm) : CodeRun P (.seq x y) t s ex t1 s1 := by
  refine ⟨fun w0 M own w a hw hu ht hd => wp_seq (wp_mono (h.run w0 M own w a hw hu ht hd) ?_), h.len⟩
  rintro e a' w' ⟨h0, h1⟩
  cases ex with
  | norm => exact absurd rfl hx
  | exit i => cases e <;> simp only [Ex.is] at h0; exact ⟨h0, h1⟩
  | ret => cases e <;> simp only [Ex.is] at h0; exact ⟨h0, h1⟩
theorem CodeRun.cond {c : Operand} {x y : Code} {t t1 : List D} {s s1 : List Ob} {ex : Ex} {b : Bool} (hb : opnd t c = .bool b) (h : CodeRun P (if b then x else y) t s ex t1 s1) : CodeRun P (.cond c x y) t s ex t1 s1 := by
  refine ⟨fun w0 M own w a hw hu ht hd => wp_cond (t := b) ?_ (h.run w0 M own w a hw hu ht hd), h.len⟩
  have hr := rep_opnd ht c
  rw [hb] at hr
  generalize hv : a.eval c = v at hr
  cases hr
  rfl
theorem CodeRun.blockN {id : Nat} {x : Code} {t t1 : List D} {s s1 : List Ob} (h : CodeRun P x t s (.exit id) t1 s1) : CodeRun P (.block id x) t s .norm t1 s1 := by
  refine ⟨fun w0 M own w a hw hu ht hd => wp_block (wp_mono (h.run w0 M own w a hw hu ht hd) ?_), h.len⟩
  rintro e a' w' ⟨h0, h1⟩
  cases e <;> simp only [Ex.is] at h0
  subst h0
  simp only [Exit.inBlock, if_true]
  exact ⟨trivial, h1⟩
theorem CodeRun.blockX {id : Nat} {x : Code} {t t1 : List D} {s s1 : List Ob} {ex : Ex} (h : CodeRun P x t s ex t1 s1) (hx : ∀ i, ex = .exit i → i ≠ id) : CodeRun P (.block id x) t s ex t1 s1 := by
  refine ⟨fun w0 M own w a hw hu ht hd => wp_block (wp_mono (h.run w0 M own w a hw hu ht hd) ?_), h.len⟩
  rintro e a' w' ⟨h0, h1⟩
  cases ex with
  | norm => cases e <;> simp only [Ex.is] at h0; exact ⟨h0, h1⟩
  | exit i =>
    cases e <;> simp only [Ex.is] at h0
    subst h0
    simp only [Exit.inBlock, if_neg (hx _ rfl)]
    exact ⟨rfl, h1⟩
  | ret => cases e <;> simp only [Ex.is] at h0; exact ⟨h0, h1⟩
theorem CodeRun.scope {x : Code} {t t1 : List D} {s s1 : List Ob} {ex : Ex} (h : CodeRun P x t s ex t1 s1) : CodeRun P (.scope x) t s ex t1 s1 := by
  refine ⟨fun w0 M own w a hw hu ht hd => wp_scope_straight (wp_mono (h.run w0 M own w a hw hu ht hd) ?_), h.len⟩
  rintro e a' w' ⟨h0, h1⟩
  cases ex <;> cases e <;> simp only [Ex.is] at h0 <;> exact ⟨h0, h1⟩
theorem CodeRun.text {id : Nat} {ops : Array Oper} {t t1 : List D} {s s1 : List Ob} {tr : List Tr} (h : Trace P ops ops.toList t s tr t1 s1) : CodeRun P (.region id ops false) t s .norm t1 s1 := by
  refine ⟨fun w0 M own w a hw hu ht hd => wp_region ?_, trace_slen h⟩
  rw [List.range_eq_range', show ops.size = ops.toList.length by simp]
  exact region_text h 0 rfl hw hu ht hd fun M' own' w' a' le up hw' ht' hd' => ⟨trivial, M', own', hw', up, le, ht', hd'⟩
theorem CodeRun.draw {id : Nat} {ops : Array Oper} {t t1 : List D} {s s1 : List Ob} {tr : List Tr} (hm : P.follows .mixedOrders = true) (h : Trace P ops ops.toList t s tr t1 s1) (hd : drawOK ops ((tr.map Tr.fp).reverse ++ []) = true) : CodeRun P (.region id ops true) t s .norm t1 s1 :=
  ⟨fun _ _ _ _ _ hw hu ht hdf => region_draw h hd hm id hw hu ht hdf fun M' own' _ _ le up hw' ht' hd' => ⟨trivial, M', own', hw', up, le, ht', hd'⟩, trace_slen h⟩

variable {ρ' : Type} {r : ρ'}
theorem codec_out {inl : Inl P ρ'} (hinl : InlSound P inl) (hm : P.follows .mixedOrders = true) : ∀ (c : Code) {t : List D} {s : List Ob} {z : Z P} {K : Ex → List D → List Ob → Z P → Option ρ'}, codec P inl c t s z K = some r →
    ∃ ex t' s' z', K ex t' s' z' = some r ∧ (z'.c → z.c ∧ CodeRun P c t s ex t' s')
  | .skip, t, s, z, K, h => ⟨_, _, _, z, by simpa only [codec] using h, fun c => ⟨c, .skip t s⟩⟩
  | .label l, t, s, z, K, h => ⟨_, _, _, z, by simpa only [codec] using h, fun c => ⟨c, .label l t s⟩⟩
  | .exit i, t, s, z, K, h => ⟨_, _, _, z, by simpa only [codec] using h, fun c => ⟨c, .exit i t s⟩⟩
  | .ret, t, s, z, K, h => ⟨_, _, _, z, by simpa only [codec] using h, fun c => ⟨c, .retC t s⟩⟩
  | .scope x, t, s, z, K, h => by
    rw [codec] at h
    obtain ⟨ex, t', s', z', h1, h2⟩ := codec_out hinl hm x h
    exact ⟨ex, t', s', z', h1, fun c => ⟨(h2 c).1, (h2 c).2.scope⟩⟩
  | .region id ops draw, t, s, z, K, h => by
    rw [codec] at h
    obtain ⟨tr, t', s', z', h1, h2⟩ := opsc_trace hinl h
    split at h1
    · exact ⟨_, _, _, z', h1, fun c => ⟨(h2 c).1, .text (h2 c).2⟩⟩
    · obtain ⟨hd, h1⟩ := chk_out h1
      exact ⟨_, _, _, z', h1, fun c => ⟨(h2 c).1, .draw hm (h2 c).2 hd⟩⟩
  | .seq x y, t, s, z, K, h => by
    rw [codec] at h
    obtain ⟨ex, t1, s1, z1, h1, h2⟩ := codec_out hinl hm x h
    split at h1
    · obtain ⟨ex', t2, s2, z2, h3, h4⟩ := codec_out hinl hm y h1
      exact ⟨ex', t2, s2, z2, h3, fun c => ⟨(h2 (h4 c).1).1, (h2 (h4 c).1).2.seqN (h4 c).2⟩⟩
    · rename_i hne
      exact ⟨_, _, _, z1, h1, fun c => ⟨(h2 c).1, (h2 c).2.seqX hne⟩⟩
  | .cond q x y, t, s, z, K, h => by
    rw [codec] at h
    split at h
    · rename_i b hb
      obtain ⟨z1, ⟨h1, h2⟩ | ⟨h1, h2⟩⟩ := branch_out h
      · obtain ⟨ex, t', s', z', h3, h4⟩ := codec_out hinl hm x h1
        exact ⟨ex, t', s', z', h3, fun c => ⟨(h2 (h4 c).1).1, .cond (b := true) (by rw [hb, (h2 (h4 c).1).2]) (h4 c).2⟩⟩
      · obtain ⟨ex, t', s', z', h3, h4⟩ := codec_out hinl hm y h1
        exact ⟨ex, t', s', z', h3, fun c => ⟨(h2 (h4 c).1).1, .cond (b := false) (by rw [hb, (h2 (h4 c).1).2]) (h4 c).2⟩⟩
    · cases h
  | .block id x, t, s, z, K, h => by
    rw [codec] at h
    obtain ⟨ex, t1, s1, z1, h1, h2⟩ := codec_out hinl hm x h
    split at h1
    · rename_i i
      split at h1
      · rename_i hi
        have hi : i = id := by simpa using hi
        subst hi
        exact ⟨_, _, _, z1, h1, fun c => ⟨(h2 c).1, (h2 c).2.blockN⟩⟩
      · rename_i hi
        have hi : i ≠ id := fun e => by subst e; simp at hi
        exact ⟨_, _, _, z1, h1, fun c => ⟨(h2 c).1, (h2 c).2.blockX fun j hj => by cases hj; exact hi⟩⟩
    · rename_i hne
      exact ⟨_, _, _, z1, h1, fun c => ⟨(h2 c).1, (h2 c).2.blockX fun j hj => absurd hj (hne j)⟩⟩
  | .loop x, t, s, z, K, h => by
    rw [codec] at h
    split at h
    · obtain ⟨ex, t', s', z', h1, h2⟩ := iter_out (c := x) (fun h => codec_out hinl hm x h) h
      exact ⟨ex, t', s', z', h1, fun k => ⟨(h2 k).1, .of_rounds (h2 k).2⟩⟩
    · rename_i sp n0 c' t1 s1 ex t2 s2 hg rest _
      split at h
      · rename_i t' s' hh
        obtain ⟨hn, h'⟩ := chk_out h
        rw [Nat.beq_eq] at hn
        subst hn
        exact ⟨ex, t2, s2, _, h', fun k => ⟨k.2, .of_head (k.1.1 ▸ k.1.2.1 ▸ k.1.2.2 ▸ hg) hh⟩⟩
      · cases h
    · rename_i c' t1 s1 ex t2 s2 hg rest _
      exact ⟨ex, t2, s2, _, h, fun k => ⟨k.2, k.1.1 ▸ k.1.2.1 ▸ k.1.2.2 ▸ hg⟩⟩
    · cases h
  | .rangeFunc f p a b, t, s, z, K, h => by
    rw [codec] at h
    split at h
    · rename_i c' t1 s1 ex t2 s2 hg rest _
      exact ⟨ex, t2, s2, _, h, fun k => ⟨k.2, k.1.1 ▸ k.1.2.1 ▸ k.1.2.2 ▸ hg⟩⟩
    · cases h
    all_goals (intros; rename_i q; cases q)
  | .goto l, t, s, z, K, h => by
    rw [codec] at h
    split at h
    · rename_i c' t1 s1 ex t2 s2 hg rest _
      exact ⟨ex, t2, s2, _, h, fun k => ⟨k.2, k.1.1 ▸ k.1.2.1 ▸ k.1.2.2 ▸ hg⟩⟩
    · cases h
    all_goals (intros; rename_i q; cases q)
  | .refuse y, t, s, z, K, h => by
    rw [codec] at h
    split at h
    · rename_i c' t1 s1 ex t2 s2 hg rest _
      exact ⟨ex, t2, s2, _, h, fun k => ⟨k.2, k.1.1 ▸ k.1.2.1 ▸ k.1.2.2 ▸ hg⟩⟩
    · cases h
    all_goals (intros; rename_i q; cases q)

/-! ### Results -/
def resF (tmps : Array Value) : ResultVar → Sem Value
  | .tmp t => pure (tmps.getD t undef)
  | .cell a t => do loadVar t (← asAddr (tmps.getD a undef))
theorem results_eq (fn : Func) (tmps : Array Value) : results fn tmps = (do
    let vs ← fn.results.mapM (resF tmps)
    pure (if h : vs.size = 1 then vs[0] else .tuple vs)) := by
  unfold results
  rfl

theorem resOne_run {w0 : Base} {M : MM} {own : Nat → Option Nat} {w : World} {t : List D} {s : List Ob} {tmps : Array Value} (hw : WRel w0 M own (stAt s) w) (ht : RepL M t tmps) {x : ResultVar} {d : D} (h : resOne P t s x = some d) :
    ∃ v, Rep M d v ∧ (resF tmps x).run P w = .ok v w := by
  cases x with
  | tmp i =>
    simp only [resOne, Option.some.injEq] at h
    subst h
    exact ⟨_, repL_getD ht i, by simp [resF]⟩
  | cell a ty =>
    simp only [resOne] at h
    split at h
    · rename_i dyn id off hp
      split at h
      · rename_i cs hb
        have hx := repL_getD ht a
        rw [hp] at hx
        generalize hv : tmps.getD a undef = v at hx
        cases hx with
        | ptr _ hbx =>
          rename_i b'
          obtain ⟨b, vs, tt, k⟩ := hw.box id cs hb
          rw [k.box] at hbx
          obtain rfl := Option.some.inj hbx
          have hcell : ∀ j c, cs[j]? = some c → w.cell? ⟨b, 0 + j, none⟩ = some (vs.getD j .nilFunc) ∧ Rep M c (vs.getD j .nilFunc) := by
            intro j c hj
            obtain ⟨u, hu, hru⟩ := RepL.get ⟨k.len, k.rep⟩ hj
            rw [Array.getD_eq_getD_getElem?, hu]
            refine ⟨?_, hru⟩
            simp [World.cell?, k.blk, hu]
          have hp' : PartOK P ty cs off d := by
            split at h
            · rename_i e he
              split at h
              · rename_i ha
                split at h
                · rename_i hk
                  simp only [Bool.and_eq_true, Nat.ble_eq] at hk
                  exact ⟨e, he, .inl ⟨ha, hk.2, (Option.some.inj h).symm⟩⟩
                · cases h
              · rename_i ha
                exact ⟨e, he, .inr ⟨ha, h⟩⟩
            · cases h
          obtain ⟨u, h1, h2⟩ := run_loadVar_ok hp' (fun j => vs.getD j .nilFunc) hcell
          rw [Nat.zero_add] at h1
          refine ⟨u, h2, ?_⟩
          simp only [resF, hv, asAddr, Sem.run_bind, Sem.run_pure, Result.andThen_ok, h1]
      · cases h
    · cases h

theorem resL_run {w0 : Base} {M : MM} {own : Nat → Option Nat} {w : World} {t : List D} {s : List Ob} {tmps : Array Value} (hw : WRel w0 M own (stAt s) w) (ht : RepL M t tmps) : ∀ {l : List ResultVar} {ds : List D}, resL P t s l = some ds →
    ∃ vs : List Value, ds.length = vs.length ∧ (∀ (i : Nat) (d : D) (v : Value), ds[i]? = some d → vs[i]? = some v → Rep M d v) ∧ Sem.run P (List.mapM (resF tmps) l) w = .ok vs w
  | [], ds, h => by
    simp only [resL, Option.some.injEq] at h
    subst h
    exact ⟨[], rfl, fun i d v h => by simp at h, by simp⟩
  | x :: l, ds, h => by
    simp only [resL] at h
    split at h
    · rename_i d ds' hd hl
      obtain rfl := Option.some.inj h
      obtain ⟨v, h1, h2⟩ := resOne_run hw ht hd
      obtain ⟨vs, k1, k2, k3⟩ := resL_run hw ht hl
      refine ⟨v :: vs, by simp [k1], ?_, ?_⟩
      · intro i d' v' a b
        cases i with
        | zero => simp at a b; subst a b; exact h1
        | succ i => simp at a b; exact k2 i d' v' a b
      · rw [List.mapM_cons, Sem.run_bind, h2, Result.andThen_ok, Sem.run_bind, k3, Result.andThen_ok, Sem.run_pure]
    · cases h

theorem results_run {w0 : Base} {M : MM} {own : Nat → Option Nat} {w : World} {t : List D} {s : List Ob} {tmps : Array Value} {fn : Func} (hw : WRel w0 M own (stAt s) w) (ht : RepL M t tmps) {ds : List D} (h : resL P t s fn.results.toList = some ds) :
    ∃ v, Rep M (resD ds) v ∧ (results fn tmps).run P w = .ok v w := by
  obtain ⟨vs, k1, k2, k3⟩ := resL_run hw ht h
  have e : (results fn tmps).run P w = .ok (if h : vs.length = 1 then vs[0] else .tuple vs.toArray) w := by
    have hr : fn.results = fn.results.toList.toArray := by simp
    rw [results_eq, hr, List.mapM_toArray, Sem.run_bind]
    rw [show (List.toArray <$> List.mapM (resF tmps) fn.results.toList : Sem (Array Value)).run P w = .ok vs.toArray w by
      rw [map_eq_pure_bind, Sem.run_bind, k3]; simp]
    simp
  refine ⟨_, ?_, e⟩
  cases ds with
  | nil =>
    cases vs with
    | nil => simp only [resD]; exact .tup rfl (fun i d v a => by simp at a)
    | cons a b => simp at k1
  | cons d ds =>
    cases ds with
    | nil =>
      cases vs with
      | nil => simp at k1
      | cons a b =>
        cases b with
        | nil => simp only [resD]; exact k2 0 d a rfl rfl
        | cons b c => simp at k1
    | cons d2 ds =>
      cases vs with
      | nil => simp at k1
      | cons a b =>
        cases b with
        | nil => simp at k1
        | cons b c => simp only [resD]; exact .tup (by simpa using k1) (fun i d v p q => k2 i d v p (by simpa using q))

/-! ### A body; a call in its caller's store -/
theorem bodyc_out {inl : Inl P ρ'} (hinl : InlSound P inl) (hm : P.follows .mixedOrders = true) {f : FuncId} {fn : Func} (hf : P.funcs[f]? = some fn) (hn : (fn.name == "runtime.NumGoroutine") = false)
    {args : List D} {s : List Ob} {z : Z P} {K : D → List Ob → Z P → Option ρ'} (h : bodyc P inl fn args s z K = some r) : ∃ d s' z', K d s' z' = some r ∧ (z'.c → z.c ∧ CallRun P f args s d s') := by
  unfold bodyc at h
  split at h
  · rename_i c hc
    obtain ⟨hle, h⟩ := chk_out h
    rw [forceL_eq] at h
    obtain ⟨ex, t', s', z', h1, h2⟩ := codec_out hinl hm c h
    have main : ∀ {l}, resL P t' s' fn.results.toList = some l → (∀ i, ex ≠ .exit i) → CodeRun P c (args ++ List.replicate (fn.ntmps - args.length) .undef) s ex t' s' → CallRun P f args s (resD l) s' := by
      intro l hl hex hrun
      refine ⟨⟨fn, c, hf, hc, hn⟩, hrun.len, ?_⟩
      intro w0 M own w vs hw hu ha
      refine calls_of_wp hf hc (wp_mono (hrun.run w0 M own w _ hw hu ?_ rfl) ?_)
      · refine ha.append ⟨by simp [ha.1], fun i d v p q => ?_⟩
        rw [List.getElem?_replicate] at p
        split at p
        · obtain rfl := Option.some.inj p; exact .undef v
        · cases p
      · rintro e a' w' ⟨h0, M', own', q1, q2, q3, q4, q5⟩
        obtain ⟨v, r1, r2⟩ := results_run q1 q4 hl
        cases ex with
        | exit i => exact absurd rfl (hex i)
        | norm => cases e <;> simp only [Ex.is] at h0; exact ⟨q5, v, r2, v, M', own', rfl, q1, q2, q3, r1⟩
        | ret => cases e <;> simp only [Ex.is] at h0; exact ⟨q5, v, r2, v, M', own', rfl, q1, q2, q3, r1⟩
    split at h1
    · cases h1
    · rename_i hex
      split at h1
      · rename_i l hl
        exact ⟨_, _, z', h1, fun c => ⟨(h2 c).1, main hl (fun i hi => hex i hi) (h2 c).2⟩⟩
      · cases h1
  · cases h

theorem inlN_sound (hm : P.follows .mixedOrders = true) : ∀ n : Nat, InlSound P (inlN (ρ := ρ') P n)
  | 0 => fun g args s z K r h => by simp [inlN] at h
  | n + 1 => fun g args s z K r h => by
    rw [inlN] at h
    simp only [] at h
    split at h
    · rename_i fn hf
      obtain ⟨hn, h⟩ := chk_out h
      exact bodyc_out (inlN_sound hm n) hm hf (by simpa using hn) h
    · cases h
end

end Go.Ev
