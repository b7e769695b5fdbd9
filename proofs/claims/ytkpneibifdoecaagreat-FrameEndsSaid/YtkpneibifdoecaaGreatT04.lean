/- Contracts and plain laws that a statement's proof leans on (texts merged: EvP, EvU, MdC, Base, MdZ, MdM, Az, MdW, MdF2, MdE, MdP). -/
import Derived.Scope
import Derived.RangeFuncRecord
import Derived.ChangeKeysEq
import Derived.KernelRfl
import Derived.Test.YtkpneibifdoecaaGreatProg
import Derived.Laws.Strings
import Derived.Test.YtkpneibifdoecaaGreatT01
import Derived.Test.YtkpneibifdoecaaGreatT02
import Derived.Test.YtkpneibifdoecaaGreatT03
set_option linter.unusedVariables false
set_option linter.unusedSimpArgs false
namespace Go.Ev
open Go Go.RowKit
def RunPost (K : Nat → Prop) (w0 : Base) (M : MM) (ex : Ex) (t' : List D) (s' : List Ob) : Exit → Act → World → Prop :=
  fun e a' w' => ex.is e ∧ ∃ M' own', WRel w0 M' own' (stAt s') w' ∧ M'.upto s'.length ∧ M.Le M' ∧ RepL M' t' a'.tmps ∧ DefsOK K M' a'.defers
theorem runPost_le {K : Nat → Prop} {w0 : Base} {M M1 : MM} (le : M.Le M1) {ex : Ex} {t' : List D} {s' : List Ob} {e : Exit} {a : Act} {w : World} (h : RunPost K w0 M1 ex t' s' e a w) : RunPost K w0 M ex t' s' e a w := by
 obtain ⟨h0, M', own', h1, h2, h3, h4, h5⟩ := h
 exact ⟨h0, M', own', h1, h2, le.trans h3, h4, h5⟩
theorem stepR_scope {P : Program} {b : Frame} {a : Act} {k : List Item} {cs : List Frame} {w : World} {c : Code} : step P (lone (b.atR a (.code (.scope c) :: k)) cs w) = .next (lone (b.atR a (.code c :: .inScope c :: k)) cs w) :=
 step_lone_go (by simp [stepG, stepG.exec, Frame.atR])
theorem stepR_inScope {P : Program} {b : Frame} {a : Act} {k : List Item} {cs : List Frame} {w : World} {c : Code} : step P (lone (b.atR a (.inScope c :: k)) cs w) = .next (lone (b.atR a k) cs w) :=
 step_lone_go (by simp [stepG, stepG.exec, Frame.atR])
theorem wpIn_scope_straight {P : Program} {F : Fence} {n : Nat} {Q : Exit → Act → World → Prop} {a : Act} {w : World} {c : Code} (h : c.wpIn F n P (Exit.noGoto Q) a w) : (Code.scope c).wpIn F n P Q a w := by
 intro b k cs hro hb hr
 have h0 : (lone (b.atR a (.code (.scope c) :: k)) cs w).fenced P F := fenced_calm hb hr rfl
 obtain ⟨e, a₁, w₁, hq, harr⟩ := h b (.inScope c :: k) cs hro hb hr
 cases e with
 | normal => exact ⟨.normal, a₁, w₁, hq, .head h0 stepR_scope (StepsIn.trans harr (.one (fenced_calm hb hr rfl) stepR_inScope))⟩
 | exit id =>
  have hx : exitTo id (.inScope c :: k) = exitTo id k := by simp [exitTo]
  exact ⟨.exit id, a₁, w₁, hq, fun k' hk => .head h0 stepR_scope (harr.1 k' (by rw [hx]; exact hk)),
   fun hr' hk => let ⟨k₁, h1, h2⟩ := harr.2 hr' (by rw [hx]; exact hk); ⟨k₁, h1, .head h0 stepR_scope h2⟩⟩
 | goto l => exact hq.elim
 | ret => exact ⟨_, a₁, w₁, hq, .of_steps (.one h0 stepR_scope) harr⟩
 | panic ch => exact ⟨_, a₁, w₁, hq, .of_steps (.one h0 stepR_scope) harr⟩
 | outgrown => exact ⟨_, a₁, w₁, hq, .of_steps (.one h0 stepR_scope) harr⟩
section
variable {P : Program} {rd : Bool}
theorem CodeRunR.skip (t : List D) (s : List Ob) : CodeRunR P rd .skip t s .norm t s :=
 ⟨fun _ _ _ _ M own _ _ hw hu ht hd => wpIn_skip ⟨trivial, M, own, hw, hu, .refl M, ht, hd⟩, Nat.le_refl _⟩
theorem CodeRunR.label (l : Nat) (t : List D) (s : List Ob) : CodeRunR P rd (.label l) t s .norm t s :=
 ⟨fun _ _ _ _ M own _ _ hw hu ht hd => wpIn_label ⟨trivial, M, own, hw, hu, .refl M, ht, hd⟩, Nat.le_refl _⟩
theorem CodeRunR.exit (i : Nat) (t : List D) (s : List Ob) : CodeRunR P rd (.exit i) t s (.exit i) t s :=
 ⟨fun _ _ _ _ M own _ _ hw hu ht hd => wpIn_exit ⟨rfl, M, own, hw, hu, .refl M, ht, hd⟩, Nat.le_refl _⟩
theorem CodeRunR.retC (t : List D) (s : List Ob) : CodeRunR P rd .ret t s .ret t s :=
 ⟨fun _ _ _ _ M own _ _ hw hu ht hd => wpIn_ret ⟨trivial, M, own, hw, hu, .refl M, ht, hd⟩, Nat.le_refl _⟩
theorem CodeRunR.seqN {x y : Code} {t t1 t2 : List D} {s s1 s2 : List Ob} {ex : Ex} (h : CodeRunR P rd x t s .norm t1 s1) (k : CodeRunR P rd y t1 s1 ex t2 s2) : CodeRunR P rd (.seq x y) t s ex t2 s2 := by
 refine ⟨fun rr hrd K w0 M own w a hw hu ht hd => wpIn_seq (wpIn_mono (h.run rr hrd K w0 M own w a hw hu ht hd) ?_), Nat.le_trans h.len k.len⟩
 rintro e a' w' ⟨h0, M', own', h1, h2, h3, h4, h5⟩
 cases e <;> simp only [Ex.is] at h0
 exact wpIn_mono (k.run rr hrd K w0 M' own' w' a' h1 h2 h4 h5) fun e a w hh => runPost_le h3 hh
theorem CodeRunR.seqX {x y : Code} {t t1 : List D} {s s1 : List Ob} {ex : Ex} (h : CodeRunR P rd x t s ex t1 s1) (hx : ex ≠ .norm) : CodeRunR P rd (.seq x y) t s ex t1 s1 := by
 refine ⟨fun rr hrd K w0 M own w a hw hu ht hd => wpIn_seq (wpIn_mono (h.run rr hrd K w0 M own w a hw hu ht hd) ?_), h.len⟩
 rintro e a' w' ⟨h0, h1⟩
 cases ex with
 | norm => exact absurd rfl hx
 | exit i => cases e <;> simp only [Ex.is] at h0; exact ⟨h0, h1⟩
 | ret => cases e <;> simp only [Ex.is] at h0; exact ⟨h0, h1⟩
theorem CodeRunR.cond {c : Operand} {x y : Code} {t t1 : List D} {s s1 : List Ob} {ex : Ex} {b : Bool} (hb : opnd t c = .bool b) (h : CodeRunR P rd (if b then x else y) t s ex t1 s1) : CodeRunR P rd (.cond c x y) t s ex t1 s1 := by
 refine ⟨fun rr hrd K w0 M own w a hw hu ht hd => wpIn_cond (t := b) ?_ (h.run rr hrd K w0 M own w a hw hu ht hd), h.len⟩
 have hr := rep_opnd ht c
 rw [hb] at hr
 generalize hv : a.eval c = v at hr
 cases hr
 rfl
theorem CodeRunR.blockN {id : Nat} {x : Code} {t t1 : List D} {s s1 : List Ob} (h : CodeRunR P rd x t s (.exit id) t1 s1) : CodeRunR P rd (.block id x) t s .norm t1 s1 := by
 refine ⟨fun rr hrd K w0 M own w a hw hu ht hd => wpIn_block (wpIn_mono (h.run rr hrd K w0 M own w a hw hu ht hd) ?_), h.len⟩
 rintro e a' w' ⟨h0, h1⟩
 cases e <;> simp only [Ex.is] at h0
 subst h0
 simp only [Exit.inBlock, if_true]
 exact ⟨trivial, h1⟩
theorem CodeRunR.blockX {id : Nat} {x : Code} {t t1 : List D} {s s1 : List Ob} {ex : Ex} (h : CodeRunR P rd x t s ex t1 s1) (hx : ∀ i, ex = .exit i → i ≠ id) : CodeRunR P rd (.block id x) t s ex t1 s1 := by
 refine ⟨fun rr hrd K w0 M own w a hw hu ht hd => wpIn_block (wpIn_mono (h.run rr hrd K w0 M own w a hw hu ht hd) ?_), h.len⟩
 rintro e a' w' ⟨h0, h1⟩
 cases ex with
 | norm => cases e <;> simp only [Ex.is] at h0; exact ⟨h0, h1⟩
 | exit i =>
  cases e <;> simp only [Ex.is] at h0
  subst h0
  simp only [Exit.inBlock, if_neg (hx _ rfl)]
  exact ⟨rfl, h1⟩
 | ret => cases e <;> simp only [Ex.is] at h0; exact ⟨h0, h1⟩
theorem CodeRunR.scope {x : Code} {t t1 : List D} {s s1 : List Ob} {ex : Ex} (h : CodeRunR P rd x t s ex t1 s1) : CodeRunR P rd (.scope x) t s ex t1 s1 := by
 refine ⟨fun rr hrd K w0 M own w a hw hu ht hd => wpIn_scope_straight (wpIn_mono (h.run rr hrd K w0 M own w a hw hu ht hd) ?_), h.len⟩
 rintro e a' w' ⟨h0, h1⟩
 cases ex <;> cases e <;> simp only [Ex.is] at h0 <;> exact ⟨h0, h1⟩
theorem CodeRunR.text {id : Nat} {ops : Array Oper} {t t1 : List D} {s s1 : List Ob} {tr : List Tr} (h : Trace P ops ops.toList t s tr t1 s1) : CodeRunR P rd (.region id ops false) t s .norm t1 s1 := by
 refine ⟨fun rr hrd K w0 M own w a hw hu ht hd => wpIn_region ?_, trace_slen h⟩
 rw [List.range_eq_range', show ops.size = ops.toList.length by simp]
 exact region_text rr h 0 rfl hw hu ht rfl fun M' own' w' a' le up hw' ht' hd' => ⟨trivial, M', own', hw', up, le, ht', hd' ▸ hd.mono le.mrk⟩
theorem CodeRunR.draw {id : Nat} {ops : Array Oper} {t t1 : List D} {s s1 : List Ob} {tr : List Tr} (hm : P.follows .mixedOrders = true) (h : Trace P ops ops.toList t s tr t1 s1) (hd : drawOK ops ((tr.map Tr.fp).reverse ++ []) = true) : CodeRunR P rd (.region id ops true) t s .norm t1 s1 :=
 ⟨fun rr _ K _ _ _ _ _ hw hu ht hdf => region_draw h hd hm id hw hu ht rfl rr fun M' own' _ _ le up hw' ht' hd' => ⟨trivial, M', own', hw', up, le, ht', hd' ▸ hdf.mono le.mrk⟩, trace_slen h⟩
theorem resolve_range {P : Program} {a : Act} {g : Operand} {gf : FuncId} {fv cv : Array Value} {l : Nat} (hf : a.eval g = .func (.func gf) fv cv) (w : World) :
  (resolve a.eval (rangeCall g l) 0).run P w = .ok { target := .fn (.func gf) cv, args := fv ++ #[.func (.yield l) #[] #[]] } w := by
 have e : a.eval (.const (.func (.yield l) #[] #[])) = .func (.yield l) #[] #[] := rfl
 simp [rangeCall, resolve, hf, Deferred.ofValue, e]
theorem RepL.keepT {M : MM} {keep : List Nat} : ∀ {t : List D} {vs : Array Value} (i : Nat), RepL M t vs → RepL M (keepT keep i t) vs := by
 intro t vs i h
 have len : ∀ (t : List D) (i : Nat), (Go.Ev.keepT keep i t).length = t.length := by
  intro t
  induction t with
  | nil => intro i; rfl
  | cons d r ih => intro i; simp [Go.Ev.keepT, ih]
 have at' : ∀ (t : List D) (i k : Nat) (d : D), (Go.Ev.keepT keep i t)[k]? = some d → d = .undef ∨ t[k]? = some d := by
  intro t
  induction t with
  | nil => intro i k d h; simp [Go.Ev.keepT] at h
  | cons a r ih =>
   intro i k d h
   cases k with
   | zero =>
    simp only [Go.Ev.keepT, List.getElem?_cons_zero, Option.some.injEq] at h
    split at h
    ·exact .inr (by simp [h])
    ·exact .inl h.symm
   | succ k => simp only [Go.Ev.keepT, List.getElem?_cons_succ] at h; simpa using ih _ _ _ h
 refine ⟨by rw [len]; exact h.1, fun k d v p q => ?_⟩
 rcases at' t i k d p with rfl | e
 ·exact .undef v
 ·exact h.2 k d v e q
theorem RepL.set {M : MM} {t : List D} {vs : Array Value} (h : RepL M t vs) {i : Nat} {d : D} {v : Value} (hr : Rep M d v) : RepL M (t.set i d) (vs.setIfInBounds i v) := by
 refine ⟨by simp [h.1], fun k d' v' p q => ?_⟩
 by_cases e : k = i
 ·subst e
  have hlt : k < t.length := by
   rcases Nat.lt_or_ge k t.length with x | x
   ·exact x
   ·rw [List.getElem?_eq_none (by simpa using x)] at p; cases p
  have hlt2 : k < vs.size := by rw [← h.1]; exact hlt
  simp [hlt] at p
  simp [hlt2] at q
  subst p q
  exact hr
 ·rw [List.getElem?_set_ne (Ne.symm e)] at p
  rw [Array.getElem?_setIfInBounds_ne (Ne.symm e)] at q
  exact h.2 k d' v' p q
theorem RepL.setPs {M : MM} : ∀ {ps : List Nat} {args : List D} {vs : List Value} {t : List D} {tv : Array Value}, RepL M t tv → args.length = vs.length → (∀ (i : Nat) (d : D) (v : Value), args[i]? = some d → vs[i]? = some v → Rep M d v) →
  RepL M (setPs t (ps.zip args)) ((ps.zip vs).foldl (fun tmps (x : Nat × Value) => tmps.setIfInBounds x.1 x.2) tv)
 | [], args, vs, t, tv, h, hl, hr => by simpa [Go.Ev.setPs] using h
 | p :: ps, [], [], t, tv, h, hl, hr => by simpa [Go.Ev.setPs] using h
 | p :: ps, [], v :: vs, t, tv, h, hl, hr => by simp at hl
 | p :: ps, d :: args, [], t, tv, h, hl, hr => by simp at hl
 | p :: ps, d :: args, v :: vs, t, tv, h, hl, hr => by
  simp only [List.zip_cons_cons, Go.Ev.setPs, List.foldl_cons]
  exact RepL.setPs (h.set (hr 0 d v rfl rfl)) (by simpa using hl) (fun i d' v' a b => hr (i + 1) d' v' (by simpa using a) (by simpa using b))
theorem CodeRunR.range {g : Operand} {ps : Array Tmp} {ag bd : Code} {t : List D} {s : List Ob} {gf : FuncId} {first cap : List D} {keep : List Nat} {d : D} {s2 : List Ob} {k : Lk} {t5 : List D} {ps5 : Array Nat} {ag5 bd5 : Code} {ex : Ex}
  (hg : opnd t g = .fn (.func gf) first cap) (hrun : CallRun P gf (first ++ (.yld s.length :: cap)) (s ++ [.lp .ready (keepT keep 0 t) ps ag bd]) d s2) (hk : s2.getD s.length .dead = .lp k t5 ps5 ag5 bd5)
  (hex : (k = .ready ∧ ex = .norm) ∨ (k = .ret ∧ ex = .ret) ∨ ∃ i, k = .exit i ∧ ex = .exit i) : CodeRunR P false (.rangeFunc g ps ag bd) t s ex t (s2.set s.length .dead) := by
 have hlen := hrun.len
 rw [List.length_append, List.length_singleton] at hlen
 refine ⟨fun rr hrd K w0 M own w a hw hu ht hd => ?_, by rw [List.length_set]; omega⟩
 obtain rfl := hrd rfl
 have hfr := rep_opnd ht g
 rw [hg] at hfr
 generalize hfv : a.eval g = fval at hfr
 cases hfr with
 | fn h1 h2 r1 r2 =>
  rename_i fv cv
  refine wpIn_rangeFunc ?_
  intro fn _
  have hw1 := hw.newMk
  obtain ⟨rec, hrec⟩ : ∃ rec : Loop, rec = { state := .ready, pending := none, fn, tmps := a.tmps, params := ps, assign := ag, body := bd, defers := w.heap.size } := ⟨_, rfl⟩
  have le1 := M.le_withMk w.heap.size
  have hbx : (M.withMk w.heap.size).box s.length = none := hu.1 _ (Nat.le_refl _)
  have hhs : ∀ v, (M.withMk w.heap.size).hist s.length v = none := fun v => hu.2 _ v (Nat.le_refl _)
  have hw2 := hw1.newLp (k := .ready) (t := keepT keep 0 t) (r := rec) hbx hhs (by rw [hrec]; rfl) (fun _ => by rw [hrec]; rfl) (by rw [hrec]; exact (ht.mono le1).keepT 0)
  have le2 := MM.le_withBox (b := (w.alloc (.deferred (some []))).heap.size) hbx
  have hsz : (w.alloc (.deferred (some []))).heap.size = w.heap.size + 1 := World.size_alloc _ _
  rw [show rec.params = ps by rw [hrec], show rec.assign = ag by rw [hrec], show rec.body = bd by rw [hrec], ← stAt_push] at hw2
  have hup : ((M.withMk w.heap.size).withBox s.length (w.alloc (.deferred (some []))).heap.size).upto (s ++ [Ob.lp .ready (keepT keep 0 t) ps ag bd]).length := by
   rw [List.length_append, List.length_singleton]
   refine ⟨fun i hi => ?_, fun i v hi => hu.2 i v (by omega)⟩
   simp only [MM.withBox, if_neg (show ¬ i = s.length by omega)]
   exact hu.1 i (by omega)
  have hargs : RepL ((M.withMk w.heap.size).withBox s.length (w.alloc (.deferred (some []))).heap.size) (first ++ (.yld s.length :: cap)) ((fv ++ #[.func (.yield (w.heap.size + 1)) #[] #[]]) ++ cv) := by
   rw [Array.append_assoc]
   refine RepL.append (RepL.mono ⟨h1, r1⟩ (le1.trans le2)) ?_
   rw [show (D.yld s.length :: cap) = [D.yld s.length] ++ cap from rfl]
   refine RepL.append ⟨rfl, fun i d v p q => ?_⟩ (RepL.mono ⟨h2, r2⟩ (le1.trans le2))
   cases i with
   | zero =>
    simp at p q
    subst p q
    exact .yld (by simp [MM.withBox, hsz])
   | succ i => simp at p
  obtain ⟨fnc, code, e1, e2, e3⟩ := hrun.ent
  refine ⟨w.heap.size + 1, [{ target := .collected w.heap.size, args := #[] }], (w.alloc (.deferred (some []))).alloc (.loop rec), _, _, gf, (fv ++ #[.func (.yield (w.heap.size + 1)) #[] #[]]) ++ cv, (w.alloc (.deferred (some []))).alloc (.loop rec), ?_, resolve_range hfv _, fun _ _ => trivial, ?_, fun e => (by cases e), ?_⟩
  ·rw [hrec]; exact run_enterLoop_outer _ _ _ _ _
  ·simp only [invoke, callFunc, Sem.run_bind, run_program, Result.andThen_ok, e1, e3, Bool.false_eq_true, if_false, e2, Option.isNone_some, Sem.run_pure]
  have hcall : CallsIn (FW none) (0 - 1) P gf ((fv ++ #[.func (.yield (w.heap.size + 1)) #[] #[]]) ++ cv) ((w.alloc (.deferred (some []))).alloc (.loop rec)) _ := (callsIn_wide (n := 0)).2 (hrun.run w0 _ _ _ _ hw2 hup hargs)
  refine hcall.mono ?_
  rintro e w3 ⟨v, M', own', rfl, q1, q2, q3, q4⟩
  have le3 : M.Le M' := (le1.trans le2).trans q3
  obtain ⟨l, r, q⟩ := q1.lp s.length k t5 ps5 ag5 bd5 hk
  have hbl : M'.box s.length = some (w.heap.size + 1) := q3.box _ _ (by simp [MM.withBox, hsz])
  have el : l = w.heap.size + 1 := by have := q.box; rw [hbl] at this; exact (Option.some.inj this).symm
  subst el
  have hnb : k ≠ .busy := by rcases hex with ⟨rfl, _⟩ | ⟨rfl, _⟩ | ⟨i, rfl, _⟩ <;> (intro e; cases e)
  have hst : r.state ≠ .busy := by
   rw [q.st]
   rcases hex with ⟨rfl, _⟩ | ⟨rfl, _⟩ | ⟨i, rfl, _⟩ <;> (intro e; cases e)
  have hw4 := q1.setLp (k' := .ready) (r' := { r with state := .exhausted }) q .dead (.inl rfl)
  have hlt : s.length < s2.length := by omega
  rw [← stAt_set hlt] at hw4
  have hd4 : DefsOK K M' ({ target := .collected w.heap.size, args := #[] } :: a.defers) := by
   obtain ⟨k0, bs, b1, b2, b3⟩ := hd
   have hnew : ∀ b, M.mrk b → b ≠ w.heap.size := fun b hb e => by
    have := (hw.mrk b hb).2
    rw [e] at this
    simp at this
   refine ⟨fun b hb => le3.mrk b (k0 b hb), w.heap.size :: bs, by rw [b1]; rfl, List.nodup_cons.2 ⟨fun hm => hnew _ (b3 _ hm).1 rfl, b2⟩, ?_⟩
   intro b hb
   rcases List.mem_cons.1 hb with rfl | hb
   ·exact ⟨q3.mrk _ (le2.mrk _ (.inr rfl)), fun hK => hnew _ (k0 _ hK) rfl⟩
   ·exact ⟨le3.mrk b (b3 b hb).1, (b3 b hb).2⟩
  have fin : ∃ M' own', WRel w0 M' own' (stAt (s2.set s.length .dead)) (putBlock w3 (w.heap.size + 1) (.loop { r with state := .exhausted })) ∧ M'.upto (s2.set s.length .dead).length ∧ M.Le M' ∧ RepL M' t a.tmps ∧ DefsOK K M' ({ target := .collected w.heap.size, args := #[] } :: a.defers) :=
   ⟨M', own', hw4, by rw [List.length_set]; exact q2, le3, ht.mono le3, hd4⟩
  refine ⟨k.pend, putBlock w3 (w.heap.size + 1) (.loop { r with state := .exhausted }), ?_, ?_⟩
  ·rw [← q.pd hnb]
   exact run_endLoop (P := P) q.blk hst
  ·rcases hex with ⟨rfl, rfl⟩ | ⟨rfl, rfl⟩ | ⟨i, rfl, rfl⟩
   ·exact ⟨trivial, fin⟩
   ·exact wpIn_ret ⟨trivial, fin⟩
   ·exact wpIn_exit ⟨rfl, fin⟩
variable {ρ' : Type} {r : ρ'}
theorem codec_out {inl : Inl P ρ'} (hinl : InlSound P inl) (hm : P.follows .mixedOrders = true) : ∀ {rd : Bool} (c : Code) {t : List D} {s : List Ob} {z : Z P} {K : Ex → List D → List Ob → Z P → Option ρ'}, codec P inl rd c t s z K = some r →
  ∃ ex t' s' z', K ex t' s' z' = some r ∧ (z'.c → z.c ∧ CodeRunR P rd c t s ex t' s')
 | rd, .skip, t, s, z, K, h => ⟨_, _, _, z, by simpa only [codec] using h, fun c => ⟨c, .skip t s⟩⟩
 | rd, .label l, t, s, z, K, h => ⟨_, _, _, z, by simpa only [codec] using h, fun c => ⟨c, .label l t s⟩⟩
 | rd, .exit i, t, s, z, K, h => ⟨_, _, _, z, by simpa only [codec] using h, fun c => ⟨c, .exit i t s⟩⟩
 | rd, .ret, t, s, z, K, h => ⟨_, _, _, z, by simpa only [codec] using h, fun c => ⟨c, .retC t s⟩⟩
 | rd, .scope x, t, s, z, K, h => by
  rw [codec] at h
  obtain ⟨ex, t', s', z', h1, h2⟩ := codec_out hinl hm x h
  exact ⟨ex, t', s', z', h1, fun c => ⟨(h2 c).1, (h2 c).2.scope⟩⟩
 | rd, .region id ops draw, t, s, z, K, h => by
  rw [codec] at h
  obtain ⟨tr, t', s', z', h1, h2⟩ := opsc_trace hinl h
  split at h1
  ·exact ⟨_, _, _, z', h1, fun c => ⟨(h2 c).1, .text (h2 c).2⟩⟩
  ·obtain ⟨hd, h1⟩ := chk_out h1
   exact ⟨_, _, _, z', h1, fun c => ⟨(h2 c).1, .draw hm (h2 c).2 hd⟩⟩
 | rd, .seq x y, t, s, z, K, h => by
  rw [codec] at h
  obtain ⟨ex, t1, s1, z1, h1, h2⟩ := codec_out hinl hm x h
  split at h1
  ·obtain ⟨ex', t2, s2, z2, h3, h4⟩ := codec_out hinl hm y h1
   exact ⟨ex', t2, s2, z2, h3, fun c => ⟨(h2 (h4 c).1).1, (h2 (h4 c).1).2.seqN (h4 c).2⟩⟩
  ·rename_i hne
   exact ⟨_, _, _, z1, h1, fun c => ⟨(h2 c).1, (h2 c).2.seqX hne⟩⟩
 | rd, .cond q x y, t, s, z, K, h => by
  rw [codec] at h
  split at h
  ·rename_i b hb
   obtain ⟨z1, ⟨h1, h2⟩ | ⟨h1, h2⟩⟩ := branch_out h
   ·obtain ⟨ex, t', s', z', h3, h4⟩ := codec_out hinl hm x h1
    exact ⟨ex, t', s', z', h3, fun c => ⟨(h2 (h4 c).1).1, .cond (b := true) (by rw [hb, (h2 (h4 c).1).2]) (h4 c).2⟩⟩
   ·obtain ⟨ex, t', s', z', h3, h4⟩ := codec_out hinl hm y h1
    exact ⟨ex, t', s', z', h3, fun c => ⟨(h2 (h4 c).1).1, .cond (b := false) (by rw [hb, (h2 (h4 c).1).2]) (h4 c).2⟩⟩
  ·cases h
 | rd, .block id x, t, s, z, K, h => by
  rw [codec] at h
  split at h
  ·rename_i sp n0 c' t1 s1 ex t2 s2 hg rest _
   split at h
   ·rename_i t' s' hh
    obtain ⟨hn, h'⟩ := chk_out h
    rw [Nat.beq_eq] at hn
    subst hn
    obtain ⟨z', h1, h2⟩ := clsc_out h'
    exact ⟨ex, t2, s2, _, h1, fun q => have k := (h2 q).1; ⟨k.2, .of_head (k.1.1 ▸ k.1.2.1 ▸ k.1.2.2 ▸ hg) hh (h2 q).2⟩⟩
   ·cases h
  ·obtain ⟨ex, t1, s1, z1, h1, h2⟩ := codec_out hinl hm x h
   split at h1
   ·rename_i i
    split at h1
    ·rename_i hi
     have hi : i = id := by simpa using hi
     subst hi
     exact ⟨_, _, _, z1, h1, fun c => ⟨(h2 c).1, (h2 c).2.blockN⟩⟩
    ·rename_i hi
     have hi : i ≠ id := fun e => by subst e; simp at hi
     exact ⟨_, _, _, z1, h1, fun c => ⟨(h2 c).1, (h2 c).2.blockX fun j hj => by cases hj; exact hi⟩⟩
   ·rename_i hne
    exact ⟨_, _, _, z1, h1, fun c => ⟨(h2 c).1, (h2 c).2.blockX fun j hj => absurd hj (hne j)⟩⟩
 | rd, .loop x, t, s, z, K, h => by
  rw [codec] at h
  split at h
  ·obtain ⟨ex, t', s', z', h1, h2⟩ := iter_out (c := x) (fun h => codec_out hinl hm x h) h
   exact ⟨ex, t', s', z', h1, fun k => ⟨(h2 k).1, .of_rounds (h2 k).2⟩⟩
  ·rename_i sp n0 c' t1 s1 ex t2 s2 hg rest _
   split at h
   ·rename_i t' s' hh
    obtain ⟨hn, h'⟩ := chk_out h
    rw [Nat.beq_eq] at hn
    subst hn
    obtain ⟨z', h1, h2⟩ := clsc_out h'
    exact ⟨ex, t2, s2, _, h1, fun q => have k := (h2 q).1; ⟨k.2, .of_head (k.1.1 ▸ k.1.2.1 ▸ k.1.2.2 ▸ hg) hh (h2 q).2⟩⟩
   ·cases h
  ·rename_i c' t1 s1 ex t2 s2 hg rest _
   exact ⟨ex, t2, s2, _, h, fun k => ⟨k.2, .any (k.1.1 ▸ k.1.2.1 ▸ k.1.2.2 ▸ hg) _⟩⟩
  ·cases h
 | rd, .rangeFunc g ps ag bd, t, s, z, K, h => by
  rw [codec] at h
  split at h
  ·split at h
   ·rename_i gf first cap hg
    rw [forceL_eq, pushOb_eq] at h
    obtain ⟨d, s2, z1, h1, h2⟩ := hinl (.fn gf) _ _ _ _ r h
    split at h1
    ·rename_i hk
     rw [setOb_eq] at h1
     exact ⟨_, _, _, z1, h1, fun c => ⟨(h2 c).1, CodeRunR.range hg (h2 c).2 hk (.inl ⟨rfl, rfl⟩)⟩⟩
    ·rename_i hk
     rw [setOb_eq] at h1
     exact ⟨_, _, _, z1, h1, fun c => ⟨(h2 c).1, CodeRunR.range hg (h2 c).2 hk (.inr (.inl ⟨rfl, rfl⟩))⟩⟩
    ·rename_i hk
     rw [setOb_eq] at h1
     exact ⟨_, _, _, z1, h1, fun c => ⟨(h2 c).1, CodeRunR.range hg (h2 c).2 hk (.inr (.inr ⟨_, rfl, rfl⟩))⟩⟩
    ·cases h1
   ·cases h
  ·rename_i c' t1 s1 ex t2 s2 hg rest _
   exact ⟨ex, t2, s2, _, h, fun k => ⟨k.2, .any (k.1.1 ▸ k.1.2.1 ▸ k.1.2.2 ▸ hg) _⟩⟩
  ·cases h
 | rd, .goto l, t, s, z, K, h => by
  rw [codec] at h
  split at h
  ·rename_i c' t1 s1 ex t2 s2 hg rest _
   exact ⟨ex, t2, s2, _, h, fun k => ⟨k.2, .any (k.1.1 ▸ k.1.2.1 ▸ k.1.2.2 ▸ hg) _⟩⟩
  ·cases h
  all_goals (intros; rename_i q; cases q)
 | rd, .refuse y, t, s, z, K, h => by
  rw [codec] at h
  split at h
  ·rename_i c' t1 s1 ex t2 s2 hg rest _
   exact ⟨ex, t2, s2, _, h, fun k => ⟨k.2, .any (k.1.1 ▸ k.1.2.1 ▸ k.1.2.2 ▸ hg) _⟩⟩
  ·cases h
  all_goals (intros; rename_i q; cases q)
def resF (tmps : Array Value) : ResultVar → Sem Value
  | .tmp t => pure (tmps.getD t undef)
  | .cell a t => do loadVar t (← asAddr (tmps.getD a undef))
theorem results_eq (fn : Func) (tmps : Array Value) : results fn tmps = (do
  let vs ← fn.results.mapM (resF tmps)
  pure (if h : vs.size = 1 then vs[0] else .tuple vs)) := by
 unfold results
 rfl
theorem resOne_run {w0 : Base} {M : MM} {own : Nat → Option Nat} {w : World} {t : List D} {s : List Ob} {tmps : Array Value} (hw : WRel w0 M own (stAt s) w) (ht : RepL M t tmps) {x : ResultVar} {d : D} (h : resOne P t s x = some d) :
  ∃ v, Rep M d v ∧ (resF tmps x).run P w = .ok v w := by
 cases x with
 | tmp i =>
  simp only [resOne, Option.some.injEq] at h
  subst h
  exact ⟨_, repL_getD ht i, by simp [resF]⟩
 | cell a ty =>
  simp only [resOne] at h
  split at h
  ·rename_i dyn id off hp
   split at h
   ·rename_i cs hb
    have hx := repL_getD ht a
    rw [hp] at hx
    generalize hv : tmps.getD a undef = v at hx
    cases hx with
    | ptr _ hbx =>
     rename_i b'
     obtain ⟨b, vs, tt, k⟩ := hw.box id cs hb
     rw [k.box] at hbx
     obtain rfl := Option.some.inj hbx
     have hcell : ∀ j c, cs[j]? = some c → w.cell? ⟨b, 0 + j, none⟩ = some (vs.getD j .nilFunc) ∧ Rep M c (vs.getD j .nilFunc) := by
      intro j c hj
      obtain ⟨u, hu, hru⟩ := repLe_get k.len k.rep hj
      rw [Array.getD_eq_getD_getElem?, hu]
      refine ⟨?_, hru⟩
      simp [World.cell?, k.blk, hu]
     have hp' : PartOK P ty cs off d := by
      split at h
      ·rename_i e he
       split at h
       ·rename_i ha
        split at h
        ·rename_i hk
         simp only [Bool.and_eq_true, Nat.ble_eq] at hk
         exact ⟨e, he, .inl ⟨ha, hk.2, (Option.some.inj h).symm⟩⟩
        ·cases h
       ·rename_i ha
        exact ⟨e, he, .inr ⟨ha, h⟩⟩
      ·cases h
     obtain ⟨u, h1, h2⟩ := run_loadVar_ok hp' (fun j => vs.getD j .nilFunc) hcell
     rw [Nat.zero_add] at h1
     refine ⟨u, h2, ?_⟩
     simp only [resF, hv, asAddr, Sem.run_bind, Sem.run_pure, Result.andThen_ok, h1]
   ·cases h
  ·cases h
theorem resL_run {w0 : Base} {M : MM} {own : Nat → Option Nat} {w : World} {t : List D} {s : List Ob} {tmps : Array Value} (hw : WRel w0 M own (stAt s) w) (ht : RepL M t tmps) : ∀ {l : List ResultVar} {ds : List D}, resL P t s l = some ds →
  ∃ vs : List Value, ds.length = vs.length ∧ (∀ (i : Nat) (d : D) (v : Value), ds[i]? = some d → vs[i]? = some v → Rep M d v) ∧ Sem.run P (List.mapM (resF tmps) l) w = .ok vs w
 | [], ds, h => by
  simp only [resL, Option.some.injEq] at h
  subst h
  exact ⟨[], rfl, fun i d v h => by simp at h, by simp⟩
 | x :: l, ds, h => by
  simp only [resL] at h
  split at h
  ·rename_i d ds' hd hl
   obtain rfl := Option.some.inj h
   obtain ⟨v, h1, h2⟩ := resOne_run hw ht hd
   obtain ⟨vs, k1, k2, k3⟩ := resL_run hw ht hl
   refine ⟨v :: vs, by simp [k1], ?_, ?_⟩
   ·intro i d' v' a b
    cases i with
    | zero => simp at a b; subst a b; exact h1
    | succ i => simp at a b; exact k2 i d' v' a b
   ·rw [List.mapM_cons, Sem.run_bind, h2, Result.andThen_ok, Sem.run_bind, k3, Result.andThen_ok, Sem.run_pure]
  ·cases h
theorem results_run {w0 : Base} {M : MM} {own : Nat → Option Nat} {w : World} {t : List D} {s : List Ob} {tmps : Array Value} {fn : Func} (hw : WRel w0 M own (stAt s) w) (ht : RepL M t tmps) {ds : List D} (h : resL P t s fn.results.toList = some ds) :
  ∃ v, Rep M (resD ds) v ∧ (results fn tmps).run P w = .ok v w := by
 obtain ⟨vs, k1, k2, k3⟩ := resL_run hw ht h
 have e : (results fn tmps).run P w = .ok (if h : vs.length = 1 then vs[0] else .tuple vs.toArray) w := by
  have hr : fn.results = fn.results.toList.toArray := by simp
  rw [results_eq, hr, List.mapM_toArray, Sem.run_bind]
  rw [show (List.toArray <$> List.mapM (resF tmps) fn.results.toList : Sem (Array Value)).run P w = .ok vs.toArray w by
   rw [map_eq_pure_bind, Sem.run_bind, k3]; simp]
  simp
 refine ⟨_, ?_, e⟩
 cases ds with
 | nil =>
  cases vs with
  | nil => simp only [resD]; exact .tup rfl (fun i d v a => by simp at a)
  | cons a b => simp at k1
 | cons d ds =>
  cases ds with
  | nil =>
   cases vs with
   | nil => simp at k1
   | cons a b =>
    cases b with
    | nil => simp only [resD]; exact k2 0 d a rfl rfl
    | cons b c => simp at k1
  | cons d2 ds =>
   cases vs with
   | nil => simp at k1
   | cons a b =>
    cases b with
    | nil => simp at k1
    | cons b c => simp only [resD]; exact .tup (by simpa using k1) (fun i d v p q => k2 i d v p (by simpa using q))
theorem leaves_marks {fn : Func} {tmps : Array Value} {R : Ending → World → Prop} {w0 : Base} {own : Nat → Option Nat} {σ : Nat → Ob} : ∀ (bs : List Nat) {M : MM} {w : World}, WRel w0 M own σ w → bs.Nodup → (∀ b ∈ bs, M.mrk b) →
  (∀ (f : Nat → Prop) (w2 : World), (∀ b, M.mrk b → b ∉ bs → f b) → WRel w0 { M with mrk := f } own σ w2 → ∃ v, (results fn tmps).run P w2 = .ok v w2 ∧ R (.returned v) w2) →
  LeavesInM Fence.wide 0 P fn tmps R (bs.map fun b => { target := .collected b, args := #[] }) .returning w
 | [], M, w, hw, _, _, h => h M.mrk w (fun _ hb _ => hb) hw
 | b :: bs, M, w, hw, hn, hb, h => by
  obtain ⟨hn1, hn2⟩ := List.nodup_cons.1 hn
  refine ⟨fun e => (by cases e), .inl ⟨b, _, rfl, run_takeDeferred (hw.mrk b (hb b (by simp))).2, ?_⟩⟩
  refine leaves_marks bs (hw.takeMk (hb b (by simp))) hn2 (fun c hc => ⟨hb c (by simp [hc]), fun e => hn1 (e ▸ hc)⟩) fun f w2 hf hw2 => ?_
  exact h f w2 (fun c hc hm => hf c ⟨hc, fun e => hm (by simp [e])⟩ (fun hm2 => hm (by simp [hm2]))) hw2
theorem bodyc_out {inl : Inl P ρ'} (hinl : InlSound P inl) (hm : P.follows .mixedOrders = true) {f : FuncId} {fn : Func} (hf : P.funcs[f]? = some fn) (hn : (fn.name == "runtime.NumGoroutine") = false)
  {args : List D} {s : List Ob} {z : Z P} {K : D → List Ob → Z P → Option ρ'} (h : bodyc P inl fn args s z K = some r) : ∃ d s' z', K d s' z' = some r ∧ (z'.c → z.c ∧ CallRun P f args s d s') := by
 unfold bodyc at h
 split at h
 ·rename_i c hc
  obtain ⟨hle, h⟩ := chk_out h
  rw [forceL_eq] at h
  obtain ⟨ex, t', s', z', h1, h2⟩ := codec_out (rd := false) hinl hm c h
  have main : ∀ {l}, resL P t' s' fn.results.toList = some l → (∀ i, ex ≠ .exit i) → CodeRunR P false c (args ++ List.replicate (fn.ntmps - args.length) .undef) s ex t' s' → CallRun P f args s (resD l) s' := by
   intro l hl hex hrun
   refine ⟨⟨fn, c, hf, hc, hn⟩, hrun.len, ?_⟩
   intro w0 M own w vs hw hu ha
   refine (callsIn_wide (n := 0)).1 (callsIn_of_wp_marks hf hc trivial (wpIn_mono (hrun.run none (fun _ => rfl) M.mrk w0 M own w _ hw hu ?_ ⟨fun _ h => h, [], rfl, List.nodup_nil, fun b hb => by cases hb⟩) ?_))
   ·refine ha.append ⟨by simp [ha.1], fun i d v p q => ?_⟩
    rw [List.getElem?_replicate] at p
    split at p
    ·obtain rfl := Option.some.inj p; exact .undef v
    ·cases p
   ·rintro e a' w' ⟨h0, M', own', q1, q2, q3, q4, _, bs, b1, b2, b3⟩
    have fin : LeavesInM Fence.wide 0 P fn a'.tmps (fun e w' => ∃ v M' own', e = .returned v ∧ WRel w0 M' own' (stAt s') w' ∧ M'.upto s'.length ∧ M.Le M' ∧ Rep M' (resD l) v) a'.defers .returning w' := by
     rw [b1]
     refine leaves_marks bs q1 b2 (fun b hb => (b3 b hb).1) fun f w2 hf2 hw2 => ?_
     have q4' : RepL { M' with mrk := f } t' a'.tmps := ⟨q4.1, fun i d v p q => (q4.2 i d v p q).noMk⟩
     obtain ⟨v, r1, r2⟩ := results_run hw2 q4' hl
     exact ⟨v, r2, v, _, own', rfl, hw2, ⟨q2.1, q2.2⟩, ⟨q3.cell, q3.box, q3.hist, fun b hb => hf2 b (q3.mrk b hb) (fun hm => (b3 b hm).2 hb)⟩, r1⟩
    cases ex with
    | exit i => exact absurd rfl (hex i)
    | norm => cases e <;> simp only [Ex.is] at h0; exact fin
    | ret => cases e <;> simp only [Ex.is] at h0; exact fin
  split at h1
  ·cases h1
  ·rename_i hex
   split at h1
   ·rename_i l hl
    exact ⟨_, _, z', h1, fun c => ⟨(h2 c).1, main hl (fun i hi => hex i hi) (h2 c).2⟩⟩
   ·cases h1
 ·cases h
theorem roundc_out {inl : Inl P ρ'} (hinl : InlSound P inl) (hm : P.follows .mixedOrders = true) {id : Nat} {args : List D} {s : List Ob} {z : Z P} {K : D → List Ob → Z P → Option ρ'} (h : roundc P inl id args s z K = some r) :
  ∃ d s' z', K d s' z' = some r ∧ (z'.c → z.c ∧ YldRun P id args s d s') := by
 unfold roundc at h
 split at h
 ·rename_i t ps ag bd hs
  obtain ⟨hle, h⟩ := chk_out h
  rw [Nat.beq_eq] at hle
  rw [forceL_eq] at h
  obtain ⟨ex, t2, s2, z1, h1, h2⟩ := codec_out (rd := true) hinl hm ag h
  split at h1
  ·split at h1
   ·rename_i t' ps' ag' bd' hs2
    rw [setOb_eq] at h1
    obtain ⟨ex2, t4, s4, z2, h3, h4⟩ := codec_out (rd := true) hinl hm bd h1
    split at h3
    ·rename_i t5 ps5 ag5 bd5 hs4
     have main : ∀ (k : Lk) (j : Option Code), ((ex2 = .norm ∧ k = .ready ∧ j = none) ∨ (ex2 = .ret ∧ k = .ret ∧ j = some .ret) ∨ ∃ i, ex2 = .exit i ∧ k = .exit i ∧ j = some (.exit i)) →
       CodeRunR P true ag (setPs t (ps.toList.zip args)) s .norm t2 s2 → CodeRunR P true bd t2 (s2.set id (.lp .busy t' ps' ag' bd')) ex2 t4 s4 → YldRun P id args s (.bool j.isNone) (s4.set id (.lp k t5 ps5 ag5 bd5)) := by
      intro k j hkj hrun1 hrun2
      have hl2 := hrun2.len
      rw [List.length_set] at hl2
      refine ⟨by rw [List.length_set]; exact Nat.le_trans hrun1.len hl2, ?_⟩
      intro w0 M own w vs l hw hu ha hb
      obtain ⟨l', rc, q⟩ := hw.lp id _ _ _ _ _ hs
      obtain rfl : l' = l := by have := q.box; rw [hb] at this; exact (Option.some.inj this).symm
      have hsz : vs.size = rc.params.size := by rw [← ha.1, hle, q.ps]
      refine ⟨_, _, _, _, run_yield q.blk hsz, ?_⟩
      have htm : RepL M (setPs t (ps.toList.zip args)) ((rc.params.zip vs).foldl (fun tmps (x : Nat × Value) => tmps.setIfInBounds x.1 x.2) rc.tmps) := by
       have := RepL.setPs (ps := ps.toList) (args := args) (vs := vs.toList) q.tm (by rw [ha.1]; simp) (fun i d v p u => ha.2 i d v p (by simpa using u))
       rw [q.ps, ← Array.foldl_toList, Array.toList_zip]
       exact this
      refine roundIn_of_wpIn (F := Fence.wide) (n := 0) trivial ?_
      rw [q.ag, q.bd]
      refine wpIn_mono (hrun1.run (some l') (fun e => by cases e) M.mrk w0 M own w _ hw hu htm ⟨fun _ h => h, [], rfl, List.nodup_nil, fun b hb => by cases hb⟩) ?_
      rintro e a1 w1 ⟨h0, M1, own1, q1, q2, q3, q4, q5⟩
      cases e <;> simp only [Ex.is] at h0
      obtain ⟨l1, rc1, p1⟩ := q1.lp id _ _ _ _ _ hs2
      obtain rfl : l1 = l' := by have := p1.box; rw [q3.box _ _ hb] at this; exact (Option.some.inj this).symm
      have hlt2 := lt_of_getD (s := s2) (i := id) (by rw [hs2]; simp)
      have hw2 := q1.setLp (k' := .busy) (r' := { rc1 with state := .busy }) p1 (.lp .busy t' ps' ag' bd') (.inr ⟨rfl, rfl, fun e => absurd rfl e, rfl, rfl, rfl, rfl⟩)
      rw [← stAt_set hlt2] at hw2
      refine ⟨_, run_beginRound p1.blk p1.st, ?_⟩
      refine wpIn_mono (hrun2.run (some l1) (fun e => by cases e) M.mrk w0 M1 own1 _ a1 hw2 (by rw [List.length_set]; exact q2) q4 q5) ?_
      rintro e2 a2 w3 ⟨h0', M2, own2, u1, u2, u3, u4, u5⟩
      obtain ⟨l2, rc2, p2⟩ := u1.lp id _ _ _ _ _ hs4
      obtain rfl : l2 = l1 := by have := p2.box; rw [u3.box _ _ (q3.box _ _ hb)] at this; exact (Option.some.inj this).symm
      have hlt4 := lt_of_getD (s := s4) (i := id) (by rw [hs4]; simp)
      have hw4 := u1.setLp (k' := k) (r' := { rc2 with state := if j.isNone then .ready else .done, pending := j }) p2 (.lp k t5 ps5 ag5 bd5) (.inr ⟨rfl, by
       rcases hkj with ⟨_, rfl, rfl⟩ | ⟨_, rfl, rfl⟩ | ⟨i, _, rfl, rfl⟩ <;> rfl, fun _ => by
       rcases hkj with ⟨_, rfl, rfl⟩ | ⟨_, rfl, rfl⟩ | ⟨i, _, rfl, rfl⟩ <;> rfl, rfl, rfl, rfl, rfl⟩)
      rw [← stAt_set hlt4] at hw4
      have fin : ∃ v w', (Instr.endRound l2 j).run P w3 = .ok v w' ∧ ∃ v' M' own', Ending.returned v = .returned v' ∧ WRel w0 M' own' (stAt (s4.set id (.lp k t5 ps5 ag5 bd5))) w' ∧ M'.upto (s4.set id (.lp k t5 ps5 ag5 bd5)).length ∧ M.Le M' ∧ Rep M' (.bool j.isNone) v' :=
       ⟨_, _, run_endRound j p2.blk, _, M2, own2, rfl, hw4, by rw [List.length_set]; exact u2, q3.trans u3, .bool _⟩
      rcases hkj with ⟨rfl, rfl, rfl⟩ | ⟨rfl, rfl, rfl⟩ | ⟨i, rfl, rfl, rfl⟩
      ·cases e2 <;> simp only [Ex.is] at h0'
       exact fin
      ·cases e2 <;> simp only [Ex.is] at h0'
       exact fin
      ·cases e2 <;> simp only [Ex.is] at h0'
       subst h0'
       exact fin
     split at h3
     ·rw [setOb_eq] at h3
      exact ⟨_, _, z2, h3, fun c => ⟨(h2 (h4 c).1).1, main .ready none (.inl ⟨rfl, rfl, rfl⟩) (h2 (h4 c).1).2 (h4 c).2⟩⟩
     ·rw [setOb_eq] at h3
      exact ⟨_, _, z2, h3, fun c => ⟨(h2 (h4 c).1).1, main .ret (some .ret) (.inr (.inl ⟨rfl, rfl, rfl⟩)) (h2 (h4 c).1).2 (h4 c).2⟩⟩
     ·rename_i i
      rw [setOb_eq] at h3
      exact ⟨_, _, z2, h3, fun c => ⟨(h2 (h4 c).1).1, main (.exit i) (some (.exit i)) (.inr (.inr ⟨i, rfl, rfl, rfl⟩)) (h2 (h4 c).1).2 (h4 c).2⟩⟩
    ·cases h3
   ·cases h1
  ·cases h1
 ·cases h
theorem inlN_sound (hm : P.follows .mixedOrders = true) : ∀ n : Nat, InlSound P (inlN (ρ := ρ') P n)
 | 0 => fun g args s z K r h => by simp [inlN] at h
 | n + 1 => fun g args s z K r h => by
  rw [inlN] at h
  simp only [] at h
  cases g with
  | fn f =>
   simp only [] at h
   split at h
   ·rename_i fn hf
    obtain ⟨hn, h⟩ := chk_out h
    exact bodyc_out (inlN_sound hm n) hm hf (by simpa using hn) h
   ·cases h
  | yl id =>
   simp only [] at h
   exact roundc_out (inlN_sound hm n) hm h
end
end Go.Ev
namespace Go.Ev
open Go Go.RowKit
section
variable {P : Program}
theorem rep_outFlag {M : MM} {s : List Ob} {d : D} {v : Value} (h : Rep M d v) (hc : d.clean = true) : Rep (bareOf M.cell) (outFlag s d) v := by
 unfold outFlag
 split
 ·rename_i id ver sz xs
  have h1 := h.toBare hc
  have : ∀ o : Own, (o = .no ∨ ∃ k, o = .fresh k) → Rep (bareOf M.cell) (.lst o sz xs) v := by
   intro o ho
   cases h1 with
   | lst b off vs hl hcap ha hsz hcc hr hst _ => exact .lst b off vs hl hcap ha hsz hcc hr hst (by rcases ho with rfl | ⟨k, rfl⟩ <;> trivial)
  split
  ·split
   ·exact this _ (.inr ⟨_, rfl⟩)
   ·exact this _ (.inl rfl)
  ·exact this _ (.inl rfl)
 ·exact h.toBare hc
theorem demote_fresh {d : D} {sz sz' : Nat} {xs : List D} : d.demote ≠ .lst (.fresh sz) sz' xs := by
 intro h
 cases d <;> simp only [D.demote, reduceCtorEq] at h
 case lst o _ _ => cases o <;> simp [Own.demote] at h
theorem outFlag_fresh {w0 : Base} {M : MM} {own : Nat → Option Nat} {w : World} {s : List Ob} (hw : WRel w0 M own (stAt s) w) {d : D} {v : Value} (h : Rep M d v) {sz sz' : Nat} {xs : List D} (e : outFlag s d = .lst (.fresh sz) sz' xs) :
  ∃ a len cap, v = .slice a len cap ∧ sz' = sz ∧ FreshRoom w0.w.heap.size w M.cell sz a len cap := by
 unfold outFlag at e
 split at e
 ·rename_i id ver sz0 xs0
  split at e
  ·rename_i v' sz2 hs
   split at e
   ·rename_i hb
    simp only [Bool.and_eq_true, Nat.beq_eq] at hb
    obtain ⟨rfl, rfl⟩ := hb
    simp only [D.lst.injEq, Own.fresh.injEq] at e
    obtain ⟨rfl, rfl, rfl⟩ := e
    obtain ⟨a, len, cap, k⟩ := hw.fam id ver sz0 hs
    cases h with
    | lst b off vs hl hcap ha hsz hcc hr hst ho =>
     have : M.hist id ver = some _ := ho
     rw [k.hist] at this
     obtain ⟨rfl, rfl, rfl⟩ := Value.slice.inj (Option.some.inj this)
     refine ⟨_, _, _, rfl, rfl, ?_⟩
     rcases k.room with q | ⟨b, vs, ty, fz, q, r⟩
     ·exact .inl q
     ·exact .inr ⟨b, vs, ty, fz, q, r.base, r.blk, r.fz, r.cap, r.none⟩
   ·cases e
  ·cases e
 ·exact absurd e demote_fresh
theorem rep_outD {w0 : Base} {M : MM} {own : Nat → Option Nat} {w : World} {s : List Ob} (hw : WRel w0 M own (stAt s) w) {d : D} {v : Value} (h : Rep M d v) (hc : d.clean = true) : Rep (bareOf M.cell) (outD s d) v ∧ FreshD w0.w.heap.size w M.cell (outD s d) v := by
 by_cases ht : ∃ ds, d = .tup ds
 ·obtain ⟨ds, rfl⟩ := ht
  cases h with
  | tup hl r =>
   rename_i vs
   rw [D.clean, D.cleanL_eq, List.all_eq_true] at hc
   refine ⟨.tup (by simpa using hl) ?_, ?_, ?_⟩
   ·intro i d v a b
    rw [List.getElem?_map, Option.map_eq_some_iff] at a
    obtain ⟨d0, h0, rfl⟩ := a
    exact rep_outFlag (r i d0 v h0 b) (hc _ (List.mem_of_getElem? h0))
   ·intro sz sz' xs e; simp [outD] at e
   ·intro ds' vs' e1 e2 i sz sz' xs hi
    simp only [outD, D.tup.injEq] at e1
    obtain rfl := Value.tuple.inj e2
    subst e1
    rw [List.getElem?_map, Option.map_eq_some_iff] at hi
    obtain ⟨d0, h0, e⟩ := hi
    have hlt : i < vs.size := by
     rw [← hl]
     rcases Nat.lt_or_ge i ds.length with q | q
     ·exact q
     ·rw [List.getElem?_eq_none q] at h0; cases h0
    obtain ⟨a, len, cap, k1, k2, k3⟩ := outFlag_fresh hw (r i d0 vs[i] h0 (by simp [hlt])) e
    exact ⟨a, len, cap, by simp [hlt, k1], k2, k3⟩
 ·have e : outD s d = outFlag s d := by
   cases d <;> first | rfl | exact absurd ⟨_, rfl⟩ ht
  rw [e]
  refine ⟨rep_outFlag h hc, fun sz sz' xs q => outFlag_fresh hw h q, fun ds vs q => ?_⟩
  exfalso
  unfold outFlag at q
  split at q
  ·split at q
   ·split at q <;> cases q
   ·cases q
  ·cases d <;> simp only [D.demote, reduceCtorEq] at q
   exact ht ⟨_, rfl⟩
theorem Ret.of_eval (hm : P.follows .mixedOrders = true) {f : FuncId} {fn : Func} (hf : P.funcs[f]? = some fn) (hn : (fn.name == "runtime.NumGoroutine") = false) {args : List D} {d : D} (o : List (Ev P))
  (h : evalRet P fn args o = some (d, selfs o True)) : Ret P f args d := by
 unfold evalRet at h
 obtain ⟨d0, s', z', h1, h2⟩ := bodyc_out (inlN_sound hm 20) hm hf hn h
 obtain ⟨hc, h1⟩ := chk_out h1
 split at h1
 ·simp only [Option.some.injEq, Prod.mk.injEq] at h1
  obtain ⟨rfl, hz⟩ := h1
  have hrun := (h2 (by rw [hz]; exact selfs_true o trivial)).2
  refine ⟨hrun.ent, fun w C vs hC ha => Calls.mono (hrun.run ⟨w, C⟩ (bareOf C) (fun _ => none) w vs ?_ ⟨fun _ _ => rfl, fun _ _ _ => rfl⟩ ha) ?_⟩
  ·refine ⟨.refl _ _, hC, ?_, ?_, ?_, ?_, ?_, ?_, fun b hb => hb.elim⟩
   ·intro b o v k _; exact k
   ·intro b i k; cases k
   ·intro i cs k; simp [stAt] at k
   ·intro i v sz k; simp [stAt] at k
   ·intro i k es q; simp [stAt] at q
   ·intro i k t ps ag bd q; simp [stAt] at q
  ·rintro e w' ⟨v, M', own', rfl, q1, q2, q3, q4⟩
   obtain ⟨r1, r2⟩ := rep_outD q1 q4 hc
   exact ⟨v, M'.cell, rfl, ⟨q1.below, q3.cell, q1.old, q1.cells⟩, r1, r2⟩
 ·cases h1
theorem Ret.cast {f : FuncId} {args args' : List D} {d d' : D} (h : Ret P f args d) (ha : args = args') (hd : d = d') : Ret P f args' d' := ha ▸ hd ▸ h
theorem CodeRun.of_eval (hm : P.follows .mixedOrders = true) {c : Code} {t : List D} {s : List Ob} {ex : Ex} {t' : List D} {s' : List Ob} (o : List (Ev P))
  (h : evalCode P c t s o = some ((ex, t', s'), selfs o True)) : CodeRun P c t s ex t' s' := by
 unfold evalCode at h
 obtain ⟨ex1, t1, s1, z', h1, h2⟩ := codec_out (rd := true) (inlN_sound hm 20) hm c h
 split at h1
 ·simp only [Option.some.injEq, Prod.mk.injEq] at h1
  obtain ⟨⟨rfl, rfl, rfl⟩, hz⟩ := h1
  exact (h2 (by rw [hz]; exact selfs_true o trivial)).2
 ·cases h1
structure RoundRun (P : Program) (c : Code) (sp : HS) (n0 : Nat) (t : List D) (s : List Ob) (ex : Ex) (t' : List D) (s' : List Ob) : Prop where
  run : ∃ t1 s1, CodeRun P c t s ex t1 s1 ∧ headc sp n0 t1 s1 = some (t', s') ∧ headOK sp t1 s1
theorem RoundRun.of_eval (hm : P.follows .mixedOrders = true) {c : Code} {sp : HS} {n0 : Nat} {t : List D} {s : List Ob} {ex : Ex} {t' : List D} {s' : List Ob} (o : List (Ev P))
  (h : evalRound P c sp n0 t s o = some ((ex, t', s'), selfs o True)) : RoundRun P c sp n0 t s ex t' s' := by
 unfold evalRound at h
 obtain ⟨ex1, t1, s1, z', h1, h2⟩ := codec_out (rd := true) (inlN_sound hm 20) hm c h
 split at h1
 ·rename_i t2 s2 hh
  obtain ⟨z2, h3, h4⟩ := clsc_out h1
  split at h3
  ·simp only [Option.some.injEq, Prod.mk.injEq] at h3
   obtain ⟨⟨rfl, rfl, rfl⟩, hz⟩ := h3
   have hz2 := h4 (by rw [hz]; exact selfs_true o trivial)
   exact ⟨t1, s1, (h2 hz2.1).2, hh, hz2.2⟩
  ·cases h3
 ·cases h1
theorem Rounds.more {c : Code} {sp : HS} {n0 : Nat} {t t2 : List D} {s s2 : List Ob} {ex : Ex} {t' : List D} {s' : List Ob} (h : RoundRun P c sp n0 t s .norm t2 s2) (k : Rounds P c n0 t2 s2 ex t' s') : Rounds P c n0 t s ex t' s' :=
 let ⟨_, _, h1, h2, h3⟩ := h.run
 .again sp h1 h2 h3 k
theorem Rounds.last {c : Code} {sp : HS} {n0 : Nat} {t : List D} {s : List Ob} {ex : Ex} {t' : List D} {s' : List Ob} (h : RoundRun P c sp n0 t s ex t' s') (hx : ex ≠ .norm) : Rounds P c n0 t s ex t' s' :=
 let ⟨_, _, h1, h2, h3⟩ := h.run
 .out sp h1 hx h2 h3
def deadO (keep : List Nat) : Nat → List Ob → List Ob
  | _, [] => []
  | i, o :: r => (match memN i keep with | true => o | false => .dead) :: deadO keep (i + 1) r
def evalCall (P : Program) (g : FuncId) (args : List D) (s : List Ob) (keep : List Nat) (o : List (Ev P)) : Option ((D × List Ob) × Prop) :=
  inlN P 20 (.fn g) args s ⟨o, True⟩ fun d s' z => match z.o with | [] => some ((d, deadO keep 0 s'), z.c) | _ => none
theorem deadO_len (keep : List Nat) : ∀ (s : List Ob) (i : Nat), (deadO keep i s).length = s.length
 | [], _ => rfl
 | o :: r, i => by simp [deadO, deadO_len keep r]
theorem deadO_at (keep : List Nat) : ∀ (s : List Ob) (i k : Nat), (deadO keep i s).getD k .dead = s.getD k .dead ∨ (deadO keep i s).getD k .dead = .dead
 | [], _, _ => .inl rfl
 | o :: r, i, 0 => by
  simp only [deadO, List.getD_cons_zero]
  split
  ·exact .inl rfl
  ·exact .inr rfl
 | o :: r, i, k + 1 => by simp only [deadO, List.getD_cons_succ]; exact deadO_at keep r (i + 1) k
theorem WRel.sub {w0 : Base} {M : MM} {own : Nat → Option Nat} {σ σ' : Nat → Ob} {w : World} (h : WRel w0 M own σ w) (hs : ∀ i, σ' i = σ i ∨ σ' i = .dead) : WRel w0 M own σ' w := by
 have at' : ∀ {i : Nat} {o : Ob}, σ' i = o → o ≠ .dead → σ i = o := fun {i o} e hn => by
  rcases hs i with q | q
  ·rw [← q]; exact e
  ·exact absurd (e ▸ q : o = .dead) hn
 exact ⟨h.below, h.cells, h.old, h.owned, fun i cs e => h.box i cs (at' e (by simp)), fun i v sz e => h.fam i v sz (at' e (by simp)), fun i k es e => h.mp i k es (at' e (by simp)),
  fun i k t ps ag bd e => h.lp i k t ps ag bd (at' e (by simp)), h.mrk⟩
theorem CallRun.of_eval (hm : P.follows .mixedOrders = true) {g : FuncId} {args : List D} {s : List Ob} {d : D} {s' : List Ob} {keep : List Nat} (o : List (Ev P))
  (h : evalCall P g args s keep o = some ((d, s'), selfs o True)) : CallRun P g args s d s' := by
 unfold evalCall at h
 obtain ⟨d1, s1, z', h1, h2⟩ := inlN_sound hm 20 (.fn g) args s _ _ _ h
 split at h1
 ·simp only [Option.some.injEq, Prod.mk.injEq] at h1
  obtain ⟨⟨rfl, rfl⟩, hz⟩ := h1
  have hrun : CallRun P g args s d1 s1 := (h2 (by rw [hz]; exact selfs_true o trivial)).2
  refine ⟨hrun.ent, by rw [deadO_len]; exact hrun.len, fun w0 M own w vs hw hu ha => Calls.mono (hrun.run w0 M own w vs hw hu ha) ?_⟩
  rintro e w' ⟨v, M', own', rfl, q1, q2, q3, q4⟩
  exact ⟨v, M', own', rfl, q1.sub (fun i => deadO_at keep s1 0 i), by rw [deadO_len]; exact q2, q3, q4⟩
 ·cases h1
theorem CallRun.cast {g : FuncId} {args : List D} {s : List Ob} {d d' : D} {s1 s2 : List Ob} (h : CallRun P g args s d s1) (h1 : d = d') (h2 : s1 = s2) : CallRun P g args s d' s2 := h1 ▸ h2 ▸ h
end
end Go.Ev
namespace Go.Ev
open Go Go.RowKit
variable {P : Program}
def frzD (s : List Ob) (id sz n : Nat) : Option D := match s.getD id .dead with
  | .box cs => match Nat.beq cs.length (n * sz) && cs.all D.clean && cs.all (fun c => storable c.demote) with
    | true => some (.lst .no sz (rows sz n (cs.map D.demote)))
    | false => none
  | _ => none
def evalRetF (P : Program) (fn : Func) (args : List D) (o : List (Ev P)) : Option (D × Prop) :=
  bodyc P (inlN P 20) fn args [] ⟨o, True⟩ fun d s z => match d with
    | .tup (.slc id sz n :: r) => match frzD s id sz n with
      | some x => chk (r.all D.clean) (match z.o with | [] => some (.tup (x :: r.map D.demote), z.c) | _ => none)
      | none => none
    | _ => none
def evalRetS (P : Program) (fn : Func) (args : List D) (o : List (Ev P)) : Option ((D × List Ob) × Prop) :=
  bodyc P (inlN P 20) fn args [] ⟨o, True⟩ fun d s z => match z.o with | [] => some ((d, s), z.c) | _ => none
def frzT (s : List Ob) (d : D) : Option D := match d with
  | .tup (.slc id sz n :: r) => match frzD s id sz n with
    | some x => some (.tup (x :: r.map D.demote))
    | none => none
  | _ => none
end Go.Ev

namespace Go.Ev
open Go Go.RowKit
def flatF (P : Program) (one : TypeId → Option (List LK)) : List Field → Nat → Option (List LK)
  | [], _ => some []
  | f :: r, off => match !(f.name == "_") && Nat.beq f.offset off with
    | true => match one f.type with
      | some ks => match Nat.beq ks.length (P.cellsOf f.type) && Nat.blt 0 ks.length with
        | true => match flatF P one r (off + ks.length) with
          | some l => some (ks ++ l)
          | none => none
        | false => none
      | none => none
    | false => none
def manyL : Nat → List LK → List LK
  | 0, _ => []
  | n + 1, l => l ++ manyL n l
def flatT (P : Program) : Nat → TypeId → Option (List LK)
  | 0, _ => none
  | d + 1, t => match P.underlying t with
    | some .bool => some [.bool]
    | some (.int k) => some [.int k]
    | some .string => some [.str]
    | some (.struct fs) => match P.stoodInHeld t with
      | false => flatF P (flatT P d) fs.toList 0
      | true => none
    | some (.array n e) => match flatT P d e, P.info? e with
      | some ks, some _ => match Nat.beq ks.length (P.cellsOf e) && Nat.blt 0 ks.length with | true => some (manyL n ks) | false => none
      | _, _ => none
    | _ => none
def mkV (P : Program) (t : TypeId) (l : List Value) : Value := match P.underlying t with
  | some e => match aggDesc e with
    | true => .agg l.toArray
    | false => l.headD .nilFunc
  | none => .nilFunc
theorem fitsVL_length : ∀ {ks : List LK} {l : List Value}, fitsVL ks l → l.length = ks.length
 | [], [], _ => rfl
 | _ :: _, [], h => h.elim
 | [], _ :: _, h => h.elim
 | k :: ks, v :: l, h => by simp [fitsVL_length h.2]
theorem fitsVL_split : ∀ {ks ks' : List LK} {l : List Value}, fitsVL (ks ++ ks') l → fitsVL ks (l.take ks.length) ∧ fitsVL ks' (l.drop ks.length)
 | [], ks', l, h => ⟨by simp [fitsVL], by simpa using h⟩
 | k :: ks, ks', [], h => h.elim
 | k :: ks, ks', v :: l, h => by
  obtain ⟨h1, h2⟩ := h
  obtain ⟨a, b⟩ := fitsVL_split h2
  exact ⟨⟨h1, a⟩, b⟩
theorem eqCellsV_split : ∀ (n : Nat) (l m : List Value), n ≤ l.length → n ≤ m.length → eqCellsV l m = (eqCellsV (l.take n) (m.take n) && eqCellsV (l.drop n) (m.drop n))
 | 0, l, m, _, _ => by simp [eqCellsV]
 | n + 1, [], m, h, _ => by simp at h
 | n + 1, _ :: _, [], _, h => by simp at h
 | n + 1, a :: l, b :: m, h, k => by
  simp only [List.take_succ_cons, List.drop_succ_cons, eqCellsV]
  rw [eqCellsV_split n l m (by simpa using h) (by simpa using k), Bool.and_assoc]
section
variable {P : Program}
def EqAt (P : Program) (d : Nat) (t : TypeId) (ks : List LK) : Prop :=
  ∀ (n : Nat) (l m : List Value) (w : World), fitsVL ks l → fitsVL ks m → (Op.equalIn (n + d) t (mkV P t l) (mkV P t m)).run P w = .ok (eqCellsV l m) w
theorem part_mkV {t : TypeId} {e : TypeDesc} (hu : P.underlying t = some e) {xs : Array Value} {off : Nat} {n : Nat} (hn : n = P.cellsOf t) (hone : aggDesc e = false → n = 1) (hl : off + n ≤ xs.size) (w : World) :
  (part t xs off).run P w = .ok (mkV P t ((xs.toList.drop off).take n)) w := by
 simp only [mkV, hu]
 cases ha : aggDesc e with
 | true =>
  simp only
  rw [run_part_agg hu ha xs off w]
  congr 2
  subst hn
  apply Array.ext'
  simp [Array.toList_extract, List.extract_eq_take_drop]
 | false =>
  simp only
  have h1 := hone ha
  subst h1
  have hlt : off < xs.size := by omega
  rw [run_part_one hu ha (v := xs[off]) (by simp [hlt]) w]
  congr 1
  rw [List.headD_eq_head?_getD, List.head?_take]
  simp [hlt]
theorem flatT_one {d : Nat} {t : TypeId} {ks : List LK} (h : flatT P d t = some ks) : ∃ e, P.underlying t = some e ∧ (aggDesc e = false → ks.length = 1) := by
 cases d with
 | zero => simp [flatT] at h
 | succ d =>
  unfold flatT at h
  split at h
  ·rename_i hu; exact ⟨_, hu, fun _ => by cases h; rfl⟩
  ·rename_i hu; exact ⟨_, hu, fun _ => by cases h; rfl⟩
  ·rename_i hu; exact ⟨_, hu, fun _ => by cases h; rfl⟩
  ·rename_i hu; exact ⟨_, hu, fun q => by cases q⟩
  ·rename_i hu; exact ⟨_, hu, fun q => by cases q⟩
  ·cases h
theorem eqFields_ok {d : Nat} (ih : ∀ {t : TypeId} {ks : List LK}, flatT P d t = some ks → EqAt P d t ks) (n : Nat) (xs ys : Array Value) (w : World) : ∀ (fs : List Field) (off : Nat) (ks : List LK), flatF P (flatT P d) fs off = some ks →
  fitsVL ks (xs.toList.drop off) → fitsVL ks (ys.toList.drop off) → (Op.eqFields (n + d) xs ys fs).run P w = .ok (eqCellsV (xs.toList.drop off) (ys.toList.drop off)) w
 | [], off, ks, h, hx, hy => by
  simp only [flatF, Option.some.injEq] at h
  subst h
  have e1 := List.length_eq_zero_iff.1 (fitsVL_length hx)
  have e2 := List.length_eq_zero_iff.1 (fitsVL_length hy)
  rw [e1, e2]
  simp [Op.eqFields, eqCellsV]
 | f :: fs, off, ks, h, hx, hy => by
  simp only [flatF] at h
  split at h
  ·rename_i hf
   simp only [Bool.and_eq_true, Bool.not_eq_true', beq_eq_false_iff_ne, Nat.beq_eq] at hf
   obtain ⟨hname, hoff⟩ := hf
   split at h
   ·rename_i k1 h1
    split at h
    ·rename_i hl
     rw [Bool.and_eq_true, Nat.beq_eq, Nat.blt_eq] at hl
     obtain ⟨hl, hpos⟩ := hl
     split at h
     ·rename_i k2 h2
      obtain rfl := Option.some.inj h
      obtain ⟨a1, a2⟩ := fitsVL_split hx
      obtain ⟨b1, b2⟩ := fitsVL_split hy
      rw [List.drop_drop] at a2 b2
      have lx : off + k1.length ≤ xs.size := by
       have := fitsVL_length hx
       simp at this
       omega
      have ly : off + k1.length ≤ ys.size := by
       have := fitsVL_length hy
       simp at this
       omega
      obtain ⟨e, hu, hone⟩ := flatT_one h1
      have hih := ih h1 n _ _ w a1 b1
      have rest := eqFields_ok ih n xs ys w fs (off + k1.length) k2 h2 a2 b2
      unfold Op.eqFields
      rw [if_pos hname, hoff]
      simp only [Sem.run_bind, part_mkV hu hl hone lx w, part_mkV hu hl hone ly w, Result.andThen_ok, hih]
      have hs := eqCellsV_split k1.length (xs.toList.drop off) (ys.toList.drop off) (by simp; omega) (by simp; omega)
      rw [List.drop_drop, List.drop_drop] at hs
      rw [hs]
      cases eqCellsV ((xs.toList.drop off).take k1.length) ((ys.toList.drop off).take k1.length) with
      | true => simpa using rest
      | false => simp
     ·cases h
    ·cases h
   ·cases h
  ·cases h
theorem eqItems_ok {d : Nat} {e : TypeId} {ks : List LK} (hks : flatT P d e = some ks) (hl : ks.length = P.cellsOf e) (hpos : 0 < ks.length) (ih : EqAt P d e ks) (n : Nat) (xs ys : Array Value) (w : World) : ∀ (c i : Nat),
  fitsVL (manyL c ks) (xs.toList.drop (i * ks.length)) → fitsVL (manyL c ks) (ys.toList.drop (i * ks.length)) → (Op.eqItems (n + d) e (P.cellsOf e) xs ys (List.range' i c)).run P w = .ok (eqCellsV (xs.toList.drop (i * ks.length)) (ys.toList.drop (i * ks.length))) w
 | 0, i, hx, hy => by
  have e1 := List.length_eq_zero_iff.1 (fitsVL_length hx)
  have e2 := List.length_eq_zero_iff.1 (fitsVL_length hy)
  rw [e1, e2]
  simp [Op.eqItems, eqCellsV]
 | c + 1, i, hx, hy => by
  simp only [manyL] at hx hy
  obtain ⟨a1, a2⟩ := fitsVL_split hx
  obtain ⟨b1, b2⟩ := fitsVL_split hy
  have hm : i * ks.length + ks.length = (i + 1) * ks.length := by rw [Nat.add_mul, Nat.one_mul]
  rw [List.drop_drop, hm] at a2 b2
  have lx : i * ks.length + ks.length ≤ xs.size := by
   have := fitsVL_length hx
   simp only [List.length_append, List.length_drop, Array.length_toList] at this
   omega
  have ly : i * ks.length + ks.length ≤ ys.size := by
   have := fitsVL_length hy
   simp at this
   omega
  obtain ⟨e', hu, hone⟩ := flatT_one hks
  have hih := ih n _ _ w a1 b1
  have rest := eqItems_ok hks hl hpos ih n xs ys w c (i + 1) a2 b2
  rw [List.range'_succ]
  unfold Op.eqItems
  rw [← hl] at rest ⊢
  simp only [Sem.run_bind, part_mkV hu hl hone lx w, part_mkV hu hl hone ly w, Result.andThen_ok, hih]
  have hs := eqCellsV_split ks.length (xs.toList.drop (i * ks.length)) (ys.toList.drop (i * ks.length)) (by simp; omega) (by simp; omega)
  rw [List.drop_drop, List.drop_drop, hm] at hs
  rw [hs]
  cases eqCellsV ((xs.toList.drop (i * ks.length)).take ks.length) ((ys.toList.drop (i * ks.length)).take ks.length) with
  | true => simpa using rest
  | false => simp
theorem flatT_ok : ∀ {d : Nat} {t : TypeId} {ks : List LK}, flatT P d t = some ks → EqAt P d t ks
 | 0, t, ks, h => by simp [flatT] at h
 | d + 1, t, ks, h => by
  intro n l m w hl hm
  unfold flatT at h
  split at h
  ·rename_i hu
   obtain rfl := Option.some.inj h
   have e1 := fitsVL_length hl
   have e2 := fitsVL_length hm
   match l, m, e1, e2 with
   | [a], [b], _, _ =>
    cases a <;> simp only [fitsVL, LK.fitsV, and_true, false_and, true_and] at hl
    cases b <;> simp only [fitsVL, LK.fitsV, and_true, false_and, true_and] at hm
    simp only [mkV, hu, aggDesc, List.headD_cons, eqCellsV, eqCellV, Bool.and_true]
    exact run_equalIn_bool' w (n + d) t _ _ hu
  ·rename_i k hu
   obtain rfl := Option.some.inj h
   have e1 := fitsVL_length hl
   have e2 := fitsVL_length hm
   match l, m, e1, e2 with
   | [a], [b], _, _ =>
    cases a <;> simp only [fitsVL, LK.fitsV, and_true, false_and, true_and] at hl
    cases b <;> simp only [fitsVL, LK.fitsV, and_true, false_and, true_and] at hm
    subst hl
    subst hm
    simp only [mkV, hu, aggDesc, List.headD_cons, eqCellsV, eqCellV, Bool.and_true]
    exact run_equalIn_int w (n + d) t _ _ _ _ hu
  ·rename_i hu
   obtain rfl := Option.some.inj h
   have e1 := fitsVL_length hl
   have e2 := fitsVL_length hm
   match l, m, e1, e2 with
   | [a], [b], _, _ =>
    cases a <;> simp only [fitsVL, LK.fitsV, and_true, false_and, true_and] at hl
    cases b <;> simp only [fitsVL, LK.fitsV, and_true, false_and, true_and] at hm
    simp only [mkV, hu, aggDesc, List.headD_cons, eqCellsV, eqCellV, Bool.and_true]
    exact run_equalIn_string w (n + d) t _ _ hu
  ·rename_i fs hu
   split at h
   ·rename_i hst
    have hf : P.fieldsOf t = fs := by simp [Program.fieldsOf, hu]
    simp only [mkV, hu, aggDesc]
    rw [show n + (d + 1) = (n + d) + 1 by omega, run_equalIn_struct w (n + d) t _ _ (by rw [hf]; exact hu) hst, hf]
    have := eqFields_ok (fun h => flatT_ok h) n l.toArray m.toArray w fs.toList 0 ks h (by simpa using hl) (by simpa using hm)
    simpa using this
   ·cases h
  ·rename_i c e hu
   split at h
   ·rename_i k1 i h1 hi
    split at h
    ·rename_i hlen
     rw [Bool.and_eq_true, Nat.beq_eq, Nat.blt_eq] at hlen
     obtain ⟨hlen, hpos⟩ := hlen
     obtain rfl := Option.some.inj h
     simp only [mkV, hu, aggDesc]
     rw [show n + (d + 1) = (n + d) + 1 by omega, run_equalIn_array w (n + d) _ _ hu hi, List.range_eq_range']
     have := eqItems_ok h1 hlen hpos (flatT_ok h1) n l.toArray m.toArray w c 0 (by simpa using hl) (by simpa using hm)
     simpa using this
    ·cases h
   ·cases h
  ·cases h
theorem FlatEq.of_flat {d : Nat} {t : TypeId} {ks : List LK} (hd : Nat.ble d 10000 = true) (hg : P.eqGuardType P.depth t = false) (ha : (match P.underlying t with | some e => aggDesc e | none => false) = true) (h : flatT P d t = some ks) : FlatEq P t ks := by
 refine ⟨hg, fun xs ys w hx hy => ?_⟩
 have := flatT_ok h (10000 - d) xs.toList ys.toList w hx hy
 rw [Nat.sub_add_cancel (by simpa using hd)] at this
 unfold mkV at this
 split at ha
 ·rename_i e he
  simp only [he, ha] at this
  simpa using this
 ·cases ha
end
end Go.Ev
namespace Go.Ev
open Go Go.RowKit
theorem andF {x y : Bool} (h : x = false) : (x && y) = false := by simp [h]
theorem andT {x y v : Bool} (h : x = true) (k : y = v) : (x && y) = v := by simp [h, k]
theorem leOf {x c c' : Int} {v : Bool} (h : decide (x < c') = v) (hc : c' = c + 1) : decide (x ≤ c) = v := by
 subst hc; rw [← h]; exact decide_eq_decide.2 (by omega)
theorem ltOfL {y c c' : Int} {v : Bool} (h : decide (y < c') = v) (hc : c' = c + 1) : decide (c < y) = !v := by
 subst hc; rw [← h, ← decide_not]; exact decide_eq_decide.2 (by omega)
theorem leOfL {y c c' : Int} {v : Bool} (h : decide (y < c') = v) (hc : c' = c) : decide (c ≤ y) = !v := by
 subst hc; rw [← h, ← decide_not]; exact decide_eq_decide.2 (by omega)
theorem ltUp {x d c : Int} (h : decide (x < d) = true) (hc : d ≤ c) : decide (x < c) = true := by
 simp only [decide_eq_true_eq] at h ⊢; omega
theorem ltDown {x d c : Int} (h : decide (x < d) = false) (hc : c ≤ d) : decide (x < c) = false := by
 simp only [decide_eq_false_iff_not] at h ⊢; omega
theorem eqOfGe {x d c : Int} (h : decide (x < d) = false) (hc : c < d) : (x == c) = false := by
 simp only [decide_eq_false_iff_not] at h; simp only [beq_eq_false_iff_ne]; omega
theorem neOf {x c : Int} (h : ¬ x = c) : (x == c) = false := by simp [h]
theorem eqIs {x c d : Int} {v : Bool} (h : x = c) (hv : (c == d) = v) : (x == d) = v := by rw [h, hv]
def tT {P : Program} : Ev P := .tst true true rfl
def tF {P : Program} : Ev P := .tst false false rfl
def tC {P : Program} {q v : Bool} (h : q = v) : Ev P := .tst q v h
theorem eT {b v : Bool} (h : b = v) : (b == true) = (v == true) := by rw [h]
theorem eF {b v : Bool} (h : b = v) : (b == false) = (v == false) := by rw [h]
theorem nt {b v : Bool} (h : b = v) : (!b) = !v := by rw [h]
theorem leC {x c' : Int} {v : Bool} (c : Int) (h : decide (x < c') = v) (hc : c' = c + 1 := by decide) : decide (x ≤ c) = v := leOf h hc
theorem ltL {y c' : Int} {v : Bool} (c : Int) (h : decide (y < c') = v) (hc : c' = c + 1 := by decide) : decide (c < y) = !v := ltOfL h hc
theorem leL {y c' : Int} {v : Bool} (c : Int) (h : decide (y < c') = v) (hc : c' = c := by decide) : decide (c ≤ y) = !v := leOfL h hc
theorem ltU {x d : Int} (c : Int) (h : decide (x < d) = true) (hc : d ≤ c := by decide) : decide (x < c) = true := ltUp h hc
theorem ltD {x d : Int} (c : Int) (h : decide (x < d) = false) (hc : c ≤ d := by decide) : decide (x < c) = false := ltDown h hc
theorem eqG {x d : Int} (c : Int) (h : decide (x < d) = false) (hc : c < d := by decide) : (x == c) = false := eqOfGe h hc
theorem eqI {x c : Int} (d : Int) (v : Bool) (h : x = c) (hv : (c == d) = v := by decide) : (x == d) = v := eqIs h hv
def wkO : Own → Own → Nat → Prop
  | _, .no, _ => True
  | .tight, .tight, _ => True
  | .tight, .fresh n, sz => n = sz
  | .fresh a, .fresh b, _ => a = b
  | _, _, _ => False
mutual
def wk : D → D → Prop
  | .lst o sz xs, .lst o' sz' ys => xs = ys ∧ (sz = sz' ∨ xs = []) ∧ wkO o o' sz' ∧ (o = .tight ∨ sz = sz')
  | .agg l, .agg m => wkL l m
  | .tup l, .tup m => wkL l m
  | a, b => a = b
def wkL : List D → List D → Prop
  | [], [] => True
  | a :: l, b :: m => wk a b ∧ wkL l m
  | _, _ => False
end
theorem wkL_get : ∀ {l m : List D}, wkL l m → l.length = m.length ∧ ∀ (i : Nat) (a b : D), l[i]? = some a → m[i]? = some b → wk a b
 | [], [], _ => ⟨rfl, fun i a b h => by simp at h⟩
 | [], _ :: _, h => by simp [wkL] at h
 | _ :: _, [], h => by simp [wkL] at h
 | a :: l, b :: m, h => by
  rw [wkL] at h
  obtain ⟨h1, h2⟩ := wkL_get h.2
  refine ⟨by simp [h1], fun i x y p q => ?_⟩
  cases i with
  | zero => simp at p q; subst p q; exact h.1
  | succ i => simp at p q; exact h2 i x y p q
theorem Rep.wk {C : Nat → Nat → Option Value} {M : MM} (hM : M = bareOf C) {d : D} {v : Value} (h : Rep M d v) : ∀ {d' : D}, wk d d' → Rep M d' v := by
 induction h with
 | lst b off vs hl hcap ha hsz hc hr hst ho ih =>
  intro d' w
  rename_i M o sz xs _ _ _
  cases d' <;> simp only [Ev.wk, reduceCtorEq] at w
  obtain ⟨rfl, w2, w3, _⟩ := w
  rename_i o' _ _
  refine Rep.resize (sz := sz) (.lst b off vs hl hcap ha hsz hc hr hst ?_) w2
  cases o <;> cases o' <;> first | trivial | exact ho | (simp only [wkO] at w3)
 | agg h r ih =>
  intro d' w
  cases d' <;> simp only [Ev.wk, reduceCtorEq] at w
  rename_i _ cs vs _
  obtain ⟨h1, h2⟩ := wkL_get w
  refine .agg (h1 ▸ h) fun i d v a b => ?_
  have hlt : i < cs.length := by
   rw [h]
   exact (Array.getElem?_eq_some_iff.1 b).1
  exact ih i cs[i] v (by simp [hlt]) b hM (h2 i _ _ (by simp [hlt]) a)
 | tup h r ih =>
  intro d' w
  cases d' <;> simp only [Ev.wk, reduceCtorEq] at w
  rename_i _ cs vs _
  obtain ⟨h1, h2⟩ := wkL_get w
  refine .tup (h1 ▸ h) fun i d v a b => ?_
  have hlt : i < cs.length := by
   rw [h]
   exact (Array.getElem?_eq_some_iff.1 b).1
  exact ih i cs[i] v (by simp [hlt]) b hM (h2 i _ _ (by simp [hlt]) a)
 | undef v => intro d' w; cases d' <;> simp only [Ev.wk, reduceCtorEq] at w; exact .undef v
 | int k n => intro d' w; cases d' <;> simp only [Ev.wk, reduceCtorEq] at w; rw [← w]; exact .int k n
 | bool b => intro d' w; cases d' <;> simp only [Ev.wk, reduceCtorEq] at w; rw [← w]; exact .bool b
 | str s => intro d' w; cases d' <;> simp only [Ev.wk, reduceCtorEq] at w; rw [← w]; exact .str s
 | nilp => intro d' w; cases d' <;> simp only [Ev.wk, reduceCtorEq] at w; exact .nilp
 | nilf => intro d' w; cases d' <;> simp only [Ev.wk, reduceCtorEq] at w; exact .nilf
 | ptr q h => intro d' w; cases d' <;> simp only [Ev.wk, reduceCtorEq] at w; rw [← w]; exact .ptr q h
 | eptr q vs hx hc hr ih => intro d' w; cases d' <;> simp only [Ev.wk, reduceCtorEq] at w; rw [← w]; exact .eptr q vs hx hc hr
 | mapp h => intro d' w; cases d' <;> simp only [Ev.wk, reduceCtorEq] at w; rw [← w]; exact .mapp h
 | yld h => intro d' w; cases d' <;> simp only [Ev.wk, reduceCtorEq] at w; rw [← w]; exact .yld h
 | slc h hh hc => intro d' w; cases d' <;> simp only [Ev.wk, reduceCtorEq] at w; rw [← w]; exact .slc h hh hc
 | fn h1 h2 r1 r2 i1 i2 => intro d' w; cases d' <;> simp only [Ev.wk, reduceCtorEq] at w; rw [← w]; exact .fn h1 h2 r1 r2
theorem fresh_wk {B : Nat} {w : World} {C : Nat → Nat → Option Value} {d d' : D} {v : Value} (hr : Rep (bareOf C) d v) (hf : ∀ sz sz' xs, d = .lst (.fresh sz) sz' xs → ∃ a len cap, v = .slice a len cap ∧ sz' = sz ∧ FreshRoom B w C sz a len cap) (hw : wk d d') :
  ∀ sz sz' xs, d' = .lst (.fresh sz) sz' xs → ∃ a len cap, v = .slice a len cap ∧ sz' = sz ∧ FreshRoom B w C sz a len cap := by
 rintro sz sz' xs rfl
 cases d <;> simp only [wk, reduceCtorEq] at hw
 rename_i o sz0 xs0
 obtain ⟨rfl, w2, w3, w4⟩ := hw
 cases o with
 | no => simp only [wkO] at w3
 | tok a b => simp only [wkO] at w3
 | tight =>
  simp only [wkO] at w3
  subst w3
  cases hr with
  | lst b off vs hl hcap ha hsz hc hr hst ho => exact ⟨_, _, _, rfl, rfl, .inl ho⟩
 | fresh k =>
  simp only [wkO] at w3
  subst w3
  rcases w4 with w4 | rfl
  ·cases w4
  ·exact hf _ _ _ rfl
theorem Ret.to {P : Program} {f : FuncId} {args : List D} {d d' : D} (h : Ret P f args d) (hw : wk d d') : Ret P f args d' := by
 refine ⟨h.ent, fun w C vs hC ha => Calls.mono (h.run w C vs hC ha) ?_⟩
 rintro e w' ⟨v, C', rfl, hext, hrep, hf1, hf2⟩
 refine ⟨v, C', rfl, hext, hrep.wk rfl hw, fresh_wk hrep hf1 hw, ?_⟩
 rintro ds vs rfl rfl i sz sz' xs hi
 cases d <;> simp only [wk, reduceCtorEq] at hw
 rename_i ds0
 obtain ⟨h1, h2⟩ := wkL_get hw
 have hlt : i < ds0.length := by
  rw [h1]
  rcases Nat.lt_or_ge i ds.length with q | q
  ·exact q
  ·rw [List.getElem?_eq_none q] at hi; cases hi
 cases hrep with
 | tup hl hr =>
  have hlv : i < vs.size := hl ▸ hlt
  have := fresh_wk (d := ds0[i]) (d' := .lst (.fresh sz) sz' xs) (v := vs[i]) (hr i _ _ (by simp [hlt]) (by simp [hlv])) (fun s1 s2 x e => by
   obtain ⟨a, len, cap, k1, k2⟩ := hf2 ds0 vs rfl rfl i s1 s2 x (by simp [hlt, e])
   exact ⟨a, len, cap, by simpa [hlv] using k1, k2⟩) (h2 i _ _ (by simp [hlt]) hi) sz sz' xs rfl
  obtain ⟨a, len, cap, k1, k2, k3⟩ := this
  exact ⟨a, len, cap, by simp [hlv, k1], k2, k3⟩
end Go.Ev
namespace Go.Ev
open Go Go.RowKit
def loopsOf : Code → List Code
  | .seq a b => loopsOf a ++ loopsOf b
  | .cond _ a b => loopsOf a ++ loopsOf b
  | .block _ a => loopsOf a
  | .scope a => loopsOf a
  | .loop a => a :: loopsOf a
  | .rangeFunc _ _ a b => loopsOf a ++ loopsOf b
  | _ => []
def loopB (fn : Func) (i : Nat) : Code := match fn.body with
  | some c => (loopsOf c).getD i .skip
  | none => .skip
def rangesOf : Code → List (Code × Code)
  | .seq a b => rangesOf a ++ rangesOf b
  | .cond _ a b => rangesOf a ++ rangesOf b
  | .block _ a => rangesOf a
  | .scope a => rangesOf a
  | .loop a => rangesOf a
  | .rangeFunc _ _ a b => (a, b) :: rangesOf b
  | _ => []
def rngA (fn : Func) (i : Nat) : Code := match fn.body with
  | some c => ((rangesOf c).getD i (.skip, .skip)).1
  | none => .skip
def rngB (fn : Func) (i : Nat) : Code := match fn.body with
  | some c => ((rangesOf c).getD i (.skip, .skip)).2
  | none => .skip
def blocksOf : Code → List Code
  | .seq a b => blocksOf a ++ blocksOf b
  | .cond _ a b => blocksOf a ++ blocksOf b
  | .block i a => .block i a :: blocksOf a
  | .scope a => blocksOf a
  | .loop a => blocksOf a
  | .rangeFunc _ _ a b => blocksOf a ++ blocksOf b
  | _ => []
def blockB (fn : Func) (i : Nat) : Code := match fn.body with
  | some c => (blocksOf c).getD i .skip
  | none => .skip
section
variable {P : Program}
theorem clAll {cs : List D} (h : cs.all D.clean = true) : ∀ c ∈ cs, c.clean = true := List.all_eq_true.1 h
theorem Rounds.cast {c : Code} {n0 : Nat} {t t1 : List D} {s s1 : List Ob} {ex ex1 : Ex} {t' t1' : List D} {s' s1' : List Ob} (h : Rounds P c n0 t s ex t' s') (h1 : t = t1) (h2 : s = s1) (h3 : ex = ex1) (h4 : t' = t1') (h5 : s' = s1') : Rounds P c n0 t1 s1 ex1 t1' s1' := by
 subst h1 h2 h3 h4 h5; exact h
theorem Rounds.from {c : Code} {n0 : Nat} {t t1 : List D} {s s1 : List Ob} {ex : Ex} {t' : List D} {s' : List Ob} (h : Rounds P c n0 t s ex t' s') (h1 : t = t1) (h2 : s = s1) : Rounds P c n0 t1 s1 ex t' s' := by
 subst h1 h2; exact h
theorem wkL_rep {C : Nat → Nat → Option Value} {l m : List D} {vs : Array Value} (h : RepL (bareOf C) l vs) (hw : wkL l m) : RepL (bareOf C) m vs := by
 obtain ⟨h1, h2⟩ := wkL_get hw
 refine ⟨by rw [← h1]; exact h.1, fun i d v p q => ?_⟩
 have hlt : i < l.length := by rw [h.1]; exact (Array.getElem?_eq_some_iff.1 q).1
 exact (h.2 i l[i] v (by simp [hlt]) q).wk rfl (h2 i _ _ (by simp [hlt]) p)
theorem Ret.args {f : FuncId} {az as' : List D} {d : D} (h : Ret P f az d) (hw : wkL as' az) : Ret P f as' d :=
 ⟨h.ent, fun w C vs hC ha => h.run w C vs hC (wkL_rep ha hw)⟩
theorem RoundRun.cast {c : Code} {sp : HS} {n0 : Nat} {t : List D} {s : List Ob} {ex : Ex} {t' t1' : List D} {s' s1' : List Ob} (h : RoundRun P c sp n0 t s ex t' s') (h4 : t' = t1') (h5 : s' = s1') : RoundRun P c sp n0 t s ex t1' s1' := by
 subst h4 h5; exact h
end
end Go.Ev

namespace Go.Ev
open Go
abbrev instD (kind op width size : Int) (byReg : Bool) (dst src off imm : Int) : D :=
  .agg [.int .i8 kind, .int .i8 op, .int .i8 width, .int .i8 size, .bool byReg, .int .i8 dst, .int .i8 src, .int .i64 off, .int .i64 imm]
def mayRange (dst src off imm : Int) : Bool := decide (0 ≤ dst ∧ dst ≤ 10 ∧ 0 ≤ src ∧ src ≤ 10 ∧ -32768 ≤ off ∧ off ≤ 32767 ∧ -2147483648 ≤ imm ∧ imm ≤ 2147483647)
def sizedM (n : Int) : Bool := decide (n = 1 ∨ n = 2 ∨ n = 4 ∨ n = 8)
def mayKind (kind op width size : Int) (byReg : Bool) (dst src off imm : Int) : Bool :=
  if kind = 0 then decide (0 ≤ op ∧ op ≤ 12 ∧ (width = 32 ∨ width = 64) ∧ dst < 10 ∧ size = 0 ∧ off = 0) && (if byReg then decide (op ≠ 8 ∧ imm = 0) else decide (src = 0 ∧ (op = 8 → imm = 0)))
  else if kind = 1 then sizedM size && decide (dst < 10 ∧ op = 0 ∧ width = 0 ∧ imm = 0) && !byReg
  else if kind = 2 then sizedM size && decide (op = 0 ∧ width = 0 ∧ imm = 0) && !byReg
  else if kind = 3 then decide (0 ≤ op ∧ op ≤ 10 ∧ width = 0 ∧ size = 0) && (if byReg then decide (imm = 0) else decide (src = 0))
  else if kind = 4 then decide (op = 0 ∧ width = 0 ∧ size = 0 ∧ dst = 0 ∧ src = 0 ∧ imm = 0) && !byReg
  else if kind = 5 then decide (op = 0 ∧ width = 0 ∧ size = 0 ∧ dst = 0 ∧ src = 0 ∧ off = 0 ∧ 0 ≤ imm ∧ imm ≤ 15) && !byReg
  else if kind = 6 then decide (op = 0 ∧ width = 0 ∧ size = 0 ∧ dst = 0 ∧ src = 0 ∧ off = 0 ∧ imm = 0) && !byReg
  else false
def mayM (kind op width size : Int) (byReg : Bool) (dst src off imm : Int) : Bool := mayRange dst src off imm && mayKind kind op width size byReg dst src off imm
def fOp (kind op : Int) : Int := if kind = 0 ∨ kind = 3 then op else 0
def fWidth (kind width : Int) : Int := if kind = 0 then width else 0
def fSize (kind size : Int) : Int := if kind = 1 ∨ kind = 2 then size else 0
def fByReg (kind op : Int) (byReg : Bool) : Bool := if kind = 0 then byReg && decide (op ≠ 8) else if kind = 3 then byReg else false
def fDst (kind dst : Int) : Int := if kind = 0 ∨ kind = 1 ∨ kind = 2 ∨ kind = 3 then dst else 0
def fSrc (kind op : Int) (byReg : Bool) (src : Int) : Int := if kind = 0 then (if byReg && decide (op ≠ 8) then src else 0) else if kind = 1 ∨ kind = 2 then src else if kind = 3 then (if byReg then src else 0) else 0
def fOff (kind off : Int) : Int := if kind = 1 ∨ kind = 2 ∨ kind = 3 ∨ kind = 4 then off else 0
def fImm (kind op : Int) (byReg : Bool) (imm : Int) : Int := if kind = 0 then (if byReg || decide (op = 8) then 0 else imm) else if kind = 3 then (if byReg then 0 else imm) else if kind = 5 then imm else 0
end Go.Ev
namespace Go.Ev
open Go
abbrev xD (op w dst src base disp imm cc : Int) : D :=
  .agg [.int .i8 op, .int .i8 w, .int .i8 dst, .int .i8 src, .int .i8 base, .int .i64 disp, .int .i64 imm, .int .i8 cc]
abbrev irD (kind op w dst src base disp imm cc reg phys num to : Int) : D :=
  .agg [.int .i8 kind, .int .i8 op, .int .i8 w, .int .i8 dst, .int .i8 src, .int .i8 base, .int .i64 disp, .int .i64 imm, .int .i8 cc, .int .i8 reg, .int .i8 phys, .int .i64 num, .int .i64 to]
abbrev takeD (phys reg : Int) : D := irD 1 0 0 0 0 0 0 0 0 reg phys 0 0
abbrev giveD (reg phys : Int) : D := irD 2 0 0 0 0 0 0 0 0 reg phys 0 0
abbrev two (op w dst src : Int) : D := irD 0 op w dst src 0 0 0 0 0 0 0 0
abbrev num (op w dst n : Int) : D := irD 0 op w dst 0 0 0 n 0 0 0 0 0
abbrev cmov (w dst : Int) : D := irD 0 25 w dst 11 0 0 0 4 0 0 0 0
def zeroImm (width imm : Int) : Bool := if width = 32 then decide (imm % 4294967296 = 0) else decide (imm = 0)
def regOp (op : Int) : Int := if op = 0 then 2 else if op = 1 then 5 else if op = 4 then 3 else if op = 5 then 4 else if op = 10 then 6 else if op = 6 then 20 else if op = 7 then 21 else 22
def immOp (op : Int) : Int := if op = 0 then 9 else if op = 1 then 12 else if op = 4 then 10 else if op = 5 then 11 else if op = 10 then 13 else if op = 6 then 17 else if op = 7 then 18 else 19
def aluM (op width : Int) (byReg : Bool) (dst src imm : Int) : List D :=
  if op = 3 ∨ op = 9 then
    (if byReg then
      [takeD 0 dst, takeD 1 src, num 1 32 2 0, num 1 32 11 1, two 8 width 1 1, cmov width 1, two 24 width 1 0, takeD 1 src] ++
        (if op = 3 then [num 1 32 11 0, two 8 width 1 1, cmov width 0, giveD dst 0] else [takeD 11 dst, two 8 width 1 1, cmov width 2, giveD dst 2])
    else if zeroImm width imm then
      (if op = 3 then [num 1 width 0 0, giveD dst 0] else if width = 32 then [takeD 0 dst, two 0 32 0 0, giveD dst 0] else [takeD 0 dst, giveD dst 0])
    else [takeD 0 dst, num 1 width 1 imm, num 1 32 2 0, two 24 width 1 0, giveD dst (if op = 3 then 0 else 2)])
  else if op = 2 then (if byReg then [takeD 0 dst, takeD 1 src, two 16 width 0 1, giveD dst 0] else [takeD 0 dst, num 1 width 1 imm, two 16 width 0 1, giveD dst 0])
  else if op = 8 then [takeD 0 dst, two 23 width 0 0, giveD dst 0]
  else if op = 11 then (if byReg then (if width = 32 then [takeD 0 src, two 0 32 0 0, giveD dst 0] else [takeD 0 src, giveD dst 0]) else [num 1 width 0 imm, giveD dst 0])
  else if op = 6 ∨ op = 7 ∨ op = 12 then (if byReg then [takeD 0 dst, takeD 1 src, two (regOp op) width 0 0, giveD dst 0] else [takeD 0 dst, num (immOp op) width 0 (imm % width), giveD dst 0])
  else (if byReg then [takeD 0 dst, takeD 1 src, two (regOp op) width 0 1, giveD dst 0] else [takeD 0 dst, num (immOp op) width 0 imm, giveD dst 0])
def stepsM (kind op width size : Int) (byReg : Bool) (dst src off imm : Int) : List D :=
  if kind = 0 then aluM op width byReg dst src imm
  else if kind = 1 then [takeD 1 src, irD 0 26 (8 * size) 0 0 1 off 0 0 0 0 0 0, giveD dst 0]
  else if kind = 2 then [takeD 1 dst, takeD 0 src, irD 0 27 (8 * size) 0 0 1 off 0 0 0 0 0 0]
  else if kind = 5 then [irD 3 0 0 0 0 0 0 0 0 0 0 imm 0, giveD 0 0, num 1 32 1 0, giveD 1 1, giveD 2 1, giveD 3 1, giveD 4 1, giveD 5 1]
  else if kind = 6 then [irD 6 0 0 0 0 0 0 0 0 0 0 0 0]
  else []
end Go.Ev
namespace Go.Ev
open Go
theorem w_u8 (n : Int) : IntKind.u8.wrap n = n % 256 := by simp [IntKind.wrap, IntKind.bits, IntKind.signed]
theorem w_u16 (n : Int) : IntKind.u16.wrap n = n % 65536 := by simp [IntKind.wrap, IntKind.bits, IntKind.signed]
theorem w_u32 (n : Int) : IntKind.u32.wrap n = n % 4294967296 := by simp [IntKind.wrap, IntKind.bits, IntKind.signed]
theorem w_u64 (n : Int) : IntKind.u64.wrap n = n % 18446744073709551616 := by simp [IntKind.wrap, IntKind.bits, IntKind.signed]
theorem w_i8 (n : Int) : IntKind.i8.wrap n = (n + 128) % 256 - 128 := by simp only [IntKind.wrap, IntKind.bits, IntKind.signed]; simp; split <;> omega
theorem w_i16 (n : Int) : IntKind.i16.wrap n = (n + 32768) % 65536 - 32768 := by simp only [IntKind.wrap, IntKind.bits, IntKind.signed]; simp; split <;> omega
theorem w_i32 (n : Int) : IntKind.i32.wrap n = (n + 2147483648) % 4294967296 - 2147483648 := by simp only [IntKind.wrap, IntKind.bits, IntKind.signed]; simp; split <;> omega
theorem w_i64 (n : Int) : IntKind.i64.wrap n = (n + 9223372036854775808) % 18446744073709551616 - 9223372036854775808 := by simp only [IntKind.wrap, IntKind.bits, IntKind.signed]; simp; split <;> omega
theorem toNat_ofInt (w : Nat) (a : Int) : (BitVec.ofInt w a).toNat = (a % (2 ^ w : Nat)).toNat := by simp [BitVec.toNat_ofInt]
theorem and_ones (w k : Nat) (hk : k ≤ w) (a : Int) : ((BitVec.ofInt w a &&& BitVec.ofInt w ((2 ^ k - 1 : Nat) : Int)).toNat : Int) = a % (2 ^ k : Nat) := by
 have hp : 0 < 2 ^ k := Nat.two_pow_pos k
 have hle : 2 ^ k ≤ 2 ^ w := Nat.pow_le_pow_right (by omega) hk
 have e2 : (((2 ^ k - 1 : Nat) : Int) % ((2 ^ w : Nat) : Int)).toNat = 2 ^ k - 1 := by
  rw [Int.emod_eq_of_lt (by omega) (by omega)]
  omega
 rw [BitVec.toNat_and, toNat_ofInt, toNat_ofInt, e2, Nat.and_two_pow_sub_one_eq_mod]
 have h0 : 0 ≤ a % ((2 ^ w : Nat) : Int) := Int.emod_nonneg _ (by omega)
 have h1 : ((a % ((2 ^ w : Nat) : Int)).toNat : Int) = a % ((2 ^ w : Nat) : Int) := Int.toNat_of_nonneg h0
 rw [Int.natCast_emod, h1]
 have hd : ((2 ^ k : Nat) : Int) ∣ ((2 ^ w : Nat) : Int) := by
  rw [Int.natCast_dvd_natCast]; exact Nat.pow_dvd_pow 2 hk
 exact Int.emod_emod_of_dvd a hd
end Go.Ev
namespace Go.Ev
open Go
structure XS where
  op : Int
  w : Int
  dst : Int
  src : Int
  base : Int
  disp : Int
  imm : Int
  cc : Int
deriving DecidableEq
def XS.d (x : XS) : D := xD x.op x.w x.dst x.src x.base x.disp x.imm x.cc
structure IrS where
  kind : Int
  op : Int
  w : Int
  dst : Int
  src : Int
  base : Int
  disp : Int
  imm : Int
  cc : Int
  reg : Int
  phys : Int
  num : Int
  to : Int
deriving DecidableEq
def IrS.d (x : IrS) : D := irD x.kind x.op x.w x.dst x.src x.base x.disp x.imm x.cc x.reg x.phys x.num x.to
structure InstS where
  kind : Int
  op : Int
  width : Int
  size : Int
  byReg : Bool
  dst : Int
  src : Int
  off : Int
  imm : Int
deriving DecidableEq
def InstS.d (x : InstS) : D := instD x.kind x.op x.width x.size x.byReg x.dst x.src x.off x.imm
abbrev irC (kind op w dst src base disp imm cc reg phys num to : Int) : List D :=
  [.int .i8 kind, .int .i8 op, .int .i8 w, .int .i8 dst, .int .i8 src, .int .i8 base, .int .i64 disp, .int .i64 imm, .int .i8 cc, .int .i8 reg, .int .i8 phys, .int .i64 num, .int .i64 to]
def sh1 (n : Int) : Int := IntKind.i64.wrap (1 * 2 ^ (min (IntKind.u64.wrap n).toNat IntKind.i64.bits))
def sh8 (n : Int) : Int := IntKind.i64.wrap (1 * 2 ^ (min n.toNat IntKind.i64.bits))
def or64 (a b : Int) : Int := IntKind.i64.wrap ((BitVec.ofInt IntKind.i64.bits a ||| BitVec.ofInt IntKind.i64.bits b).toNat : Int)
def andNot64 (a b : Int) : Int := IntKind.i64.wrap ((BitVec.ofInt IntKind.i64.bits a &&& ~~~BitVec.ofInt IntKind.i64.bits b).toNat : Int)
end Go.Ev

namespace Go.Proofs.YtkpneibifdoecaaGreat
open Go Go.Ev
theorem mixed : Tryz.prog.follows .mixedOrders = true := by kernel_rfl
theorem flat_X : FlatEq Tryz.prog 55 [.int .i8, .int .i8, .int .i8, .int .i8, .int .i8, .int .i64, .int .i64, .int .i8] := FlatEq.of_flat (d := 5) (by kernel_rfl) (by kernel_rfl) (by kernel_rfl) (by kernel_rfl)
theorem flat_Ir : FlatEq Tryz.prog 65 [.int .i8, .int .i8, .int .i8, .int .i8, .int .i8, .int .i8, .int .i64, .int .i64, .int .i8, .int .i8, .int .i8, .int .i64, .int .i64] := FlatEq.of_flat (d := 5) (by kernel_rfl) (by kernel_rfl) (by kernel_rfl) (by kernel_rfl)
theorem flat_Place : FlatEq Tryz.prog 25 [.int .i8, .int .i8] := FlatEq.of_flat (d := 5) (by kernel_rfl) (by kernel_rfl) (by kernel_rfl) (by kernel_rfl)
theorem flat_Flags : FlatEq Tryz.prog 45 [.bool, .bool, .bool, .bool, .bool] := FlatEq.of_flat (d := 5) (by kernel_rfl) (by kernel_rfl) (by kernel_rfl) (by kernel_rfl)
end Go.Proofs.YtkpneibifdoecaaGreat

namespace Go.Ev
open Go
def shapeM (op : Int) : Int :=
  if op = 0 ∨ (2 ≤ op ∧ op ≤ 8) then 1
  else if op = 16 then 2
  else if op = 1 ∨ (9 ≤ op ∧ op ≤ 15) then 3
  else if 17 ≤ op ∧ op ≤ 19 then 4
  else if 20 ≤ op ∧ op ≤ 24 then 5
  else if op = 25 then 6
  else if op = 26 then 7
  else if op = 27 then 8
  else if op = 28 then 9
  else if op = 29 then 10
  else if op = 30 ∨ op = 31 then 11
  else 0
def codeM (op : Int) : Int :=
  if op = 0 then 0x89 else if op = 1 then 0xC7 else if op = 2 then 0x01 else if op = 3 then 0x09 else if op = 4 then 0x21 else if op = 5 then 0x29 else if op = 6 then 0x31 else if op = 7 then 0x39 else if op = 8 then 0x85
  else if 9 ≤ op ∧ op ≤ 14 then 0x81 else if op = 15 then 0xF7 else if op = 16 then 0xAF else if 17 ≤ op ∧ op ≤ 19 then 0xC1 else if 20 ≤ op ∧ op ≤ 22 then 0xD3 else if op = 23 ∨ op = 24 then 0xF7
  else if op = 25 then 0x40 else if op = 26 then 0x8B else if op = 27 then 0x89 else if op = 28 then 0xE9 else if op = 29 then 0x80 else if op = 30 then 0xC3 else if op = 31 then 0x05 else 0
def numM (op : Int) : Int :=
  if op = 10 then 1 else if op = 11 ∨ op = 17 ∨ op = 20 then 4 else if op = 12 ∨ op = 18 ∨ op = 21 then 5 else if op = 13 ∨ op = 24 then 6 else if op = 14 ∨ op = 19 ∨ op = 22 then 7 else if op = 23 then 3 else 0
def classM (op : Int) : Int :=
  if shapeM op = 1 ∨ shapeM op = 2 then 1 else if shapeM op = 0 then 0 else shapeM op - 1
def regM (n : Int) : Bool := decide (0 ≤ n ∧ n ≤ 15)
def ccM (n : Int) : Bool := decide ((2 ≤ n ∧ n ≤ 7) ∨ (12 ≤ n ∧ n ≤ 15))
def longM (w : Int) : Bool := decide (w = 32 ∨ w = 64)
def widthM (w : Int) : Bool := decide (w = 8 ∨ w = 16 ∨ w = 32 ∨ w = 64)
def jumpM (w imm : Int) : Bool := decide (w = 32 ∨ (w = 8 ∧ -128 ≤ imm ∧ imm ≤ 127))
def mayS (sh w dst src base disp imm cc : Int) : Bool :=
  if sh = 1 ∨ sh = 2 then longM w && decide (base = 0 ∧ disp = 0 ∧ imm = 0 ∧ cc = 0)
  else if sh = 3 then longM w && decide (src = 0 ∧ base = 0 ∧ disp = 0 ∧ cc = 0)
  else if sh = 4 then longM w && decide (src = 0 ∧ base = 0 ∧ disp = 0 ∧ cc = 0 ∧ 0 ≤ imm ∧ imm < w)
  else if sh = 5 then longM w && decide (src = 0 ∧ base = 0 ∧ disp = 0 ∧ imm = 0 ∧ cc = 0)
  else if sh = 6 then longM w && decide (base = 0 ∧ disp = 0 ∧ imm = 0) && ccM cc
  else if sh = 7 then widthM w && decide (src = 0 ∧ imm = 0 ∧ cc = 0)
  else if sh = 8 then widthM w && decide (dst = 0 ∧ imm = 0 ∧ cc = 0)
  else if sh = 9 then jumpM w imm && decide (dst = 0 ∧ src = 0 ∧ base = 0 ∧ disp = 0 ∧ cc = 0)
  else if sh = 10 then jumpM w imm && decide (dst = 0 ∧ src = 0 ∧ base = 0 ∧ disp = 0) && ccM cc
  else if sh = 11 then decide (w = 0 ∧ dst = 0 ∧ src = 0 ∧ base = 0 ∧ disp = 0 ∧ imm = 0 ∧ cc = 0)
  else false
def mayX (op w dst src base disp imm cc : Int) : Bool :=
  regM dst && regM src && regM base && decide (-2147483648 ≤ disp ∧ disp ≤ 2147483647) && decide (-2147483648 ≤ imm ∧ imm ≤ 2147483647) && mayS (shapeM op) w dst src base disp imm cc
def fourM (n : Int) : List Int := [n % 256, n / 256 % 256, n / 65536 % 256, n / 16777216 % 256]
def rexB (wide : Bool) (r m : Int) : Int := 64 + (if wide then 8 else 0) + 4 * (r / 8) + m / 8
def needM (wide : Bool) (r m : Int) (always : Bool) : Bool := wide || always || decide (8 ≤ r ∨ 8 ≤ m)
def rexM (wide : Bool) (r m : Int) (always : Bool) : List Int := if needM wide r m always then [rexB wide r m] else []
def regsM (r m : Int) : Int := 192 + 8 * (r % 8) + m % 8
def memM (r b disp : Int) : List Int := if b % 8 = 4 then (128 + 8 * (r % 8) + b % 8) :: 36 :: fourM disp else (128 + 8 * (r % 8) + b % 8) :: fourM disp
def bytesM (op w dst src base disp imm cc : Int) : List Int :=
  let sh := shapeM op
  let wide := decide (w = 64)
  if sh = 1 then rexM wide src dst false ++ [codeM op, regsM src dst]
  else if sh = 2 then rexM wide dst src false ++ [15, codeM op, regsM dst src]
  else if sh = 6 then rexM wide dst src false ++ [15, 64 + cc, regsM dst src]
  else if sh = 3 then (if op = 1 ∧ w = 32 then rexM false 0 dst false ++ ((184 + dst % 8) :: fourM imm) else rexM wide 0 dst false ++ (codeM op :: regsM (numM op) dst :: fourM imm))
  else if sh = 4 then rexM wide 0 dst false ++ [codeM op, regsM (numM op) dst, imm % 256]
  else if sh = 5 then rexM wide 0 dst false ++ [codeM op, regsM (numM op) dst]
  else if sh = 7 then rexM wide dst base false ++ ((if w = 8 then [15, 182] else if w = 16 then [15, 183] else [139]) ++ memM dst base disp)
  else if sh = 8 then (if w = 16 then [102] else []) ++ (rexM wide src base (decide (w = 8)) ++ ((if w = 8 then [136] else [137]) ++ memM src base disp))
  else if sh = 9 then (if w = 8 then [235, imm % 256] else 233 :: fourM imm)
  else if sh = 10 then (if w = 8 then [112 + cc, imm % 256] else 15 :: (128 + cc) :: fourM imm)
  else if op = 31 then [15, 5]
  else [195]
def bD (l : List Int) : List D := l.map fun n => .int .u8 n
def bytesL (op w dst src base disp imm cc : Int) : List D := if mayX op w dst src base disp imm cc then bD (bytesM op w dst src base disp imm cc) else []
def bytesE (op w dst src base disp imm cc : Int) : Int := if mayX op w dst src base disp imm cc then 0 else 2
end Go.Ev
namespace Go.Ev
open Go
def signed4 (a b c d : Int) : Int := (a + 256 * b + 65536 * c + 16777216 * d + 2147483648) % 4294967296 - 2147483648
def signed1 (a : Int) : Int := (a + 128) % 256 - 128
theorem mayX_parts {op w dst src base disp imm cc : Int} (h : mayX op w dst src base disp imm cc = true) :
  (0 ≤ dst ∧ dst ≤ 15 ∧ 0 ≤ src ∧ src ≤ 15 ∧ 0 ≤ base ∧ base ≤ 15 ∧ -2147483648 ≤ disp ∧ disp ≤ 2147483647 ∧ -2147483648 ≤ imm ∧ imm ≤ 2147483647) ∧ mayS (shapeM op) w dst src base disp imm cc = true := by
 simp only [mayX, regM, Bool.and_eq_true, decide_eq_true_eq] at h
 exact ⟨by omega, h.2⟩
theorem shape_ops {op : Int} (h : shapeM op ≠ 0) : op = 0 ∨ op = 1 ∨ op = 2 ∨ op = 3 ∨ op = 4 ∨ op = 5 ∨ op = 6 ∨ op = 7 ∨ op = 8 ∨ op = 9 ∨ op = 10 ∨ op = 11 ∨ op = 12 ∨ op = 13 ∨ op = 14 ∨ op = 15 ∨ op = 16 ∨ op = 17 ∨ op = 18 ∨ op = 19 ∨ op = 20 ∨ op = 21 ∨ op = 22 ∨ op = 23 ∨ op = 24 ∨ op = 25 ∨ op = 26 ∨ op = 27 ∨ op = 28 ∨ op = 29 ∨ op = 30 ∨ op = 31 := by
 by_cases h2 : 0 ≤ op ∧ op ≤ 31
 ·omega
 ·refine absurd ?_ h
  unfold shapeM
  repeat (rw [if_neg (by omega)])
def rd4 : List Int → Int
  | a :: b :: c :: d :: _ => signed4 a b c d
  | _ => 0
def hd (l : List Int) : Int := l.headD 0
def ops32 : List Int := [0, 1, 2, 3, 4, 5, 6, 7, 8, 9, 10, 11, 12, 13, 14, 15, 16, 17, 18, 19, 20, 21, 22, 23, 24, 25, 26, 27, 28, 29, 30, 31]
def findOp (p : Int → Bool) : Int := (ops32.find? p).getD (-1)
def opPairs (c : Int) : Int := findOp fun o => decide (shapeM o = 1 ∧ codeM o = c)
def opGroup (c k : Int) : Int := findOp fun o => decide ((shapeM o = 3 ∨ shapeM o = 4 ∨ shapeM o = 5) ∧ codeM o = c ∧ numM o = k)
def preM : List Int → Bool × Int × Int × List Int
  | h :: t => if 64 ≤ h ∧ h ≤ 79 then (decide (72 ≤ h), (h - 64) / 4 % 2, (h - 64) % 2, t) else (false, 0, 0, h :: t)
  | [] => (false, 0, 0, [])
def behM (t : List Int) : List Int := if hd t % 8 = 4 then t.drop 2 else t.drop 1
def dec2 (wide : Bool) (r m c : Int) (t : List Int) : XS :=
  let w := if wide then 64 else 32
  let reg := hd t / 8 % 8 + 8 * r
  let rm := hd t % 8 + 8 * m
  if c = 175 then ⟨16, w, reg, rm, 0, 0, 0, 0⟩
  else if 64 ≤ c ∧ c ≤ 79 then ⟨25, w, reg, rm, 0, 0, 0, c - 64⟩
  else if 128 ≤ c ∧ c ≤ 143 then ⟨29, 32, 0, 0, 0, 0, rd4 t, c - 128⟩
  else if c = 182 then ⟨26, 8, reg, 0, rm, rd4 (behM t), 0, 0⟩
  else if c = 183 then ⟨26, 16, reg, 0, rm, rd4 (behM t), 0, 0⟩
  else ⟨31, 0, 0, 0, 0, 0, 0, 0⟩
def dec1 (half wide : Bool) (r m c : Int) (t : List Int) : XS :=
  let w := if wide then 64 else 32
  let reg := hd t / 8 % 8 + 8 * r
  let rm := hd t % 8 + 8 * m
  if c = 15 then dec2 wide r m (hd t) (t.drop 1)
  else if 184 ≤ c ∧ c ≤ 191 then ⟨1, 32, c - 184 + 8 * m, 0, 0, 0, rd4 t, 0⟩
  else if 112 ≤ c ∧ c ≤ 127 then ⟨29, 8, 0, 0, 0, 0, signed1 (hd t), c - 112⟩
  else if c = 235 then ⟨28, 8, 0, 0, 0, 0, signed1 (hd t), 0⟩
  else if c = 233 then ⟨28, 32, 0, 0, 0, 0, rd4 t, 0⟩
  else if c = 195 then ⟨30, 0, 0, 0, 0, 0, 0, 0⟩
  else if c = 139 then ⟨26, w, reg, 0, rm, rd4 (behM t), 0, 0⟩
  else if c = 136 then ⟨27, 8, 0, reg, rm, rd4 (behM t), 0, 0⟩
  else if c = 137 ∧ hd t < 192 then ⟨27, if half then 16 else w, 0, reg, rm, rd4 (behM t), 0, 0⟩
  else if opPairs c ≠ -1 then ⟨opPairs c, w, rm, reg, 0, 0, 0, 0⟩
  else
    let o := opGroup c (hd t / 8 % 8)
    if shapeM o = 3 then ⟨o, w, rm, 0, 0, 0, rd4 (t.drop 1), 0⟩
    else if shapeM o = 4 then ⟨o, w, rm, 0, 0, 0, hd (t.drop 1), 0⟩
    else ⟨o, w, rm, 0, 0, 0, 0, 0⟩
def decR (half : Bool) (p : Bool × Int × Int × List Int) : XS := dec1 half p.1 p.2.1 p.2.2.1 (hd p.2.2.2) (p.2.2.2.drop 1)
def decM (l : List Int) : XS := if hd l = 102 then decR true (preM (l.drop 1)) else decR false (preM l)
theorem op_fin {op : Int} (h : shapeM op ≠ 0) : ∃ n : Fin 32, op = n.val := by
 have := shape_ops h
 exact ⟨⟨op.toNat, by omega⟩, by simp; omega⟩
theorem long_cases {w : Int} (h : longM w = true) : w = 32 ∨ w = 64 := by simpa [longM] using h
theorem shape_6 : ∀ n : Fin 32, shapeM (n.val : Int) = 6 → (n.val : Int) = 25 := by decide +kernel
theorem shape_7 : ∀ n : Fin 32, shapeM (n.val : Int) = 7 → (n.val : Int) = 26 := by decide +kernel
theorem shape_8 : ∀ n : Fin 32, shapeM (n.val : Int) = 8 → (n.val : Int) = 27 := by decide +kernel
theorem shape_9 : ∀ n : Fin 32, shapeM (n.val : Int) = 9 → (n.val : Int) = 28 := by decide +kernel
theorem shape_10 : ∀ n : Fin 32, shapeM (n.val : Int) = 10 → (n.val : Int) = 29 := by decide +kernel
theorem shape_11 : ∀ n : Fin 32, shapeM (n.val : Int) = 11 → (n.val : Int) = 30 ∨ (n.val : Int) = 31 := by decide +kernel
end Go.Ev
namespace Go.Ev
open Go
theorem fin16 {d : Int} (h0 : 0 ≤ d) (h1 : d ≤ 15) : ∃ n : Fin 16, d = (n.val : Int) := ⟨⟨d.toNat, by omega⟩, by simp; omega⟩
theorem need_or {r m : Int} (r0 : 0 ≤ r) (r1 : r ≤ 15) (m0 : 0 ≤ m) (m1 : m ≤ 15) : (IntKind.i8.wrap ((BitVec.ofInt 8 (IntKind.i8.wrap ((BitVec.ofInt 8 r ||| BitVec.ofInt 8 m).toNat : Int)) &&& BitVec.ofInt 8 8).toNat : Int) != 0) = decide (8 ≤ r ∨ 8 ≤ m) := by
 obtain ⟨n, rfl⟩ := fin16 r0 r1
 obtain ⟨k, rfl⟩ := fin16 m0 m1
 clear r0 r1 m0 m1
 revert n k
 decide +kernel
theorem reg_yes {r : Int} (r0 : 0 ≤ r) (r1 : r ≤ 15) : regM r = true := by simp [regM, r0, r1]
theorem rex_raw0 {r m : Int} (r0 : 0 ≤ r) (r1 : r ≤ 15) (m0 : 0 ≤ m) (m1 : m ≤ 15) : IntKind.u8.wrap ((BitVec.ofInt 8 (IntKind.u8.wrap ((BitVec.ofInt 8 64 ||| BitVec.ofInt 8 (4 * (r / 8))).toNat : Int)) ||| BitVec.ofInt 8 (m / 8)).toNat : Int) = rexB false r m := by
 obtain ⟨n, rfl⟩ := fin16 r0 r1
 obtain ⟨k, rfl⟩ := fin16 m0 m1
 clear r0 r1 m0 m1
 revert n k
 decide +kernel
theorem rex_raw1 {r m : Int} (r0 : 0 ≤ r) (r1 : r ≤ 15) (m0 : 0 ≤ m) (m1 : m ≤ 15) : IntKind.u8.wrap ((BitVec.ofInt 8 (IntKind.u8.wrap ((BitVec.ofInt 8 (IntKind.u8.wrap ((BitVec.ofInt 8 64 ||| BitVec.ofInt 8 (4 * (r / 8))).toNat : Int)) ||| BitVec.ofInt 8 (m / 8)).toNat : Int)) ||| BitVec.ofInt 8 8).toNat : Int) = rexB true r m := by
 obtain ⟨n, rfl⟩ := fin16 r0 r1
 obtain ⟨k, rfl⟩ := fin16 m0 m1
 clear r0 r1 m0 m1
 revert n k
 decide +kernel
theorem and7 (a : Int) : ((BitVec.ofInt 8 a &&& BitVec.ofInt 8 7).toNat : Int) = a % 8 := by have := and_ones 8 3 (by omega) a; exact this
theorem sib_t {b : Int} (h : decide (b % 8 = 4) = true) : (IntKind.i8.wrap ((BitVec.ofInt 8 b &&& BitVec.ofInt 8 7).toNat : Int) == 4) = true := by
 rw [and7, w_i8]; simp at h ⊢; omega
theorem sib_f {b : Int} (h : decide (b % 8 = 4) = false) : (IntKind.i8.wrap ((BitVec.ofInt 8 b &&& BitVec.ofInt 8 7).toNat : Int) == 4) = false := by
 rw [and7, w_i8]; simp at h ⊢; omega
theorem fd1 (a : Int) : a.fdiv 1 = a := by rw [Int.fdiv_eq_ediv_of_nonneg _ (by decide)]; omega
theorem fd256 (a : Int) : a.fdiv 256 = a / 256 := Int.fdiv_eq_ediv_of_nonneg _ (by decide)
theorem fd65536 (a : Int) : a.fdiv 65536 = a / 65536 := Int.fdiv_eq_ediv_of_nonneg _ (by decide)
theorem fd16777216 (a : Int) : a.fdiv 16777216 = a / 16777216 := Int.fdiv_eq_ediv_of_nonneg _ (by decide)
theorem or184 {r : Int} (r0 : 0 ≤ r) (r1 : r ≤ 15) : IntKind.u8.wrap ((BitVec.ofInt 8 184 ||| BitVec.ofInt 8 (IntKind.u8.wrap (IntKind.i8.wrap ((BitVec.ofInt 8 r &&& BitVec.ofInt 8 7).toNat : Int)))).toNat : Int) = 184 + r % 8 := by
 obtain ⟨n, rfl⟩ := fin16 r0 r1
 clear r0 r1
 revert n
 decide +kernel
theorem beq_dec (a b : Int) : (a == b) = decide (a = b) := by
 rw [Bool.eq_iff_iff]; simp
end Go.Ev
namespace Go.Ev
open Go
def lenX (op w dst src base disp imm cc : Int) : Int := ((bytesL op w dst src base disp imm cc).length : Nat)
def A255 (l : List Int) : Prop := ∀ b ∈ l, 0 ≤ b ∧ b ≤ 255
theorem A255.nil : A255 [] := by intro b hb; cases hb
theorem A255.cons {x : Int} {l : List Int} (h0 : 0 ≤ x) (h1 : x ≤ 255) (h : A255 l) : A255 (x :: l) := by
 intro b hb
 rcases List.mem_cons.1 hb with e | hb
 ·subst e; exact ⟨h0, h1⟩
 ·exact h b hb
end Go.Ev
namespace Go.Ev
open Go
end Go.Ev

namespace Go.Ev
open Go
def u64 (n : Int) : Int := IntKind.u64.wrap n
def cutM (v w : Int) : Int := if w = 8 then v % 256 else if w = 16 then v % 65536 else if w = 32 then v % 4294967296 else v
def signM (v w : Int) : Int :=
  if w = 8 then u64 (IntKind.i8.wrap v) else if w = 16 then u64 (IntKind.i16.wrap v) else if w = 32 then u64 (IntKind.i32.wrap v) else v
def negM (v w : Int) : Bool := decide (IntKind.i64.wrap (signM v w) < 0)
def xor64 (a b : Int) : Int := u64 ((BitVec.ofInt 64 a ^^^ BitVec.ofInt 64 b).toNat : Int)
def and64u (a b : Int) : Int := u64 ((BitVec.ofInt 64 a &&& BitVec.ofInt 64 b).toNat : Int)
def or64u (a b : Int) : Int := u64 ((BitVec.ofInt 64 a ||| BitVec.ofInt 64 b).toNat : Int)
def fD (k c z s o : Bool) : D := .agg [.bool k, .bool c, .bool z, .bool s, .bool o]
def byM (b w : Int) : Int := and64u b (u64 (IntKind.i8.wrap (w - 1)))
def opM (op a b by' w : Int) : Int :=
  if op = 0 then u64 (a + b)
  else if op = 1 then u64 (a - b)
  else if op = 2 then u64 (a * b)
  else if op = 3 then (if b = 0 then 0 else u64 (a.tdiv b))
  else if op = 4 then or64u a b
  else if op = 5 then and64u a b
  else if op = 6 then u64 (a * 2 ^ (min by'.toNat 64))
  else if op = 7 then a.fdiv (2 ^ (min by'.toNat 64))
  else if op = 8 then u64 (0 - a)
  else if op = 9 then (if b = 0 then a else a.tmod b)
  else if op = 10 then xor64 a b
  else if op = 11 then b
  else u64 ((IntKind.i64.wrap (signM a w)).fdiv (2 ^ (min by'.toNat 64)))
def doM (op w a b : Int) : Int := cutM (opM op (cutM a w) (cutM b w) (byM (cutM b w) w) w) w
theorem neD {x c : Int} {v : Bool} (h : (x == c) = v) : decide (x ≠ c) = !v := by
 rw [← h]; by_cases e : x = c <;> simp [e]
def rg (l : List Int) (i : Int) : Int := l.getD i.toNat 0
def st (j i v r : Int) : Int := if i = j then v else r
theorem in16 {i : Int} (h0 : 0 ≤ i) (h1 : i ≤ 15) : decide ((0 : Int) ≤ i ∧ i < ((16 : Nat) : Int)) = true := by
 rw [decide_eq_true_eq]; omega
def putD (i v r0 r1 r2 r3 r4 r5 r6 r7 r8 r9 r10 r11 r12 r13 r14 r15 : Int) (tl : List D) : List D := .int .u64 (st 0 i v r0) :: .int .u64 (st 1 i v r1) :: .int .u64 (st 2 i v r2) :: .int .u64 (st 3 i v r3) :: .int .u64 (st 4 i v r4) :: .int .u64 (st 5 i v r5) :: .int .u64 (st 6 i v r6) :: .int .u64 (st 7 i v r7) :: .int .u64 (st 8 i v r8) :: .int .u64 (st 9 i v r9) :: .int .u64 (st 10 i v r10) :: .int .u64 (st 11 i v r11) :: .int .u64 (st 12 i v r12) :: .int .u64 (st 13 i v r13) :: .int .u64 (st 14 i v r14) :: .int .u64 (st 15 i v r15) :: tl
abbrev uu : D := .undef
abbrev PutsA (l : List D) (i : Nat) (xs l' : List D) : Prop := l.take i ++ (xs ++ l.drop (i + xs.length)) = l' ∧ i + xs.length ≤ l.length
abbrev GetsA (l : List D) (i n : Nat) (l' : List D) : Prop := (l.drop i).take n = l' ∧ i + n ≤ l.length
section
variable {r0 r1 r2 r3 r4 r5 r6 r7 r8 r9 r10 r11 r12 r13 r14 r15 i v : Int} {tl : List D}
theorem get_reg (h0 : 0 ≤ i) (h1 : i ≤ 15) : (D.int .u64 r0 :: D.int .u64 r1 :: D.int .u64 r2 :: D.int .u64 r3 :: D.int .u64 r4 :: D.int .u64 r5 :: D.int .u64 r6 :: D.int .u64 r7 :: D.int .u64 r8 :: D.int .u64 r9 :: D.int .u64 r10 :: D.int .u64 r11 :: D.int .u64 r12 :: D.int .u64 r13 :: D.int .u64 r14 :: D.int .u64 r15 :: tl : List D)[0 + i.toNat * 1]? =
  some (.int .u64 (rg [r0, r1, r2, r3, r4, r5, r6, r7, r8, r9, r10, r11, r12, r13, r14, r15] i)) := by
 obtain ⟨n, rfl⟩ := fin16 h0 h1
 have : n.val = 0 ∨ n.val = 1 ∨ n.val = 2 ∨ n.val = 3 ∨ n.val = 4 ∨ n.val = 5 ∨ n.val = 6 ∨ n.val = 7 ∨ n.val = 8 ∨ n.val = 9 ∨ n.val = 10 ∨ n.val = 11 ∨ n.val = 12 ∨ n.val = 13 ∨ n.val = 14 ∨ n.val = 15 := by omega
 rcases this with e | e | e | e | e | e | e | e | e | e | e | e | e | e | e | e <;> rw [e] <;> rfl
theorem put_reg (h0 : 0 ≤ i) (h1 : i ≤ 15) : PutsA (D.int .u64 r0 :: D.int .u64 r1 :: D.int .u64 r2 :: D.int .u64 r3 :: D.int .u64 r4 :: D.int .u64 r5 :: D.int .u64 r6 :: D.int .u64 r7 :: D.int .u64 r8 :: D.int .u64 r9 :: D.int .u64 r10 :: D.int .u64 r11 :: D.int .u64 r12 :: D.int .u64 r13 :: D.int .u64 r14 :: D.int .u64 r15 :: tl : List D) (0 + i.toNat * 1) [D.int .u64 v]
  (D.int .u64 (st 0 i v r0) :: D.int .u64 (st 1 i v r1) :: D.int .u64 (st 2 i v r2) :: D.int .u64 (st 3 i v r3) :: D.int .u64 (st 4 i v r4) :: D.int .u64 (st 5 i v r5) :: D.int .u64 (st 6 i v r6) :: D.int .u64 (st 7 i v r7) :: D.int .u64 (st 8 i v r8) :: D.int .u64 (st 9 i v r9) :: D.int .u64 (st 10 i v r10) :: D.int .u64 (st 11 i v r11) :: D.int .u64 (st 12 i v r12) :: D.int .u64 (st 13 i v r13) :: D.int .u64 (st 14 i v r14) :: D.int .u64 (st 15 i v r15) :: tl) := by
 obtain ⟨n, rfl⟩ := fin16 h0 h1
 have : n.val = 0 ∨ n.val = 1 ∨ n.val = 2 ∨ n.val = 3 ∨ n.val = 4 ∨ n.val = 5 ∨ n.val = 6 ∨ n.val = 7 ∨ n.val = 8 ∨ n.val = 9 ∨ n.val = 10 ∨ n.val = 11 ∨ n.val = 12 ∨ n.val = 13 ∨ n.val = 14 ∨ n.val = 15 := by omega
 rcases this with e | e | e | e | e | e | e | e | e | e | e | e | e | e | e | e <;> rw [e] <;> refine ⟨rfl, by simp⟩
end
end Go.Ev

namespace Go.Proofs.YtkpneibifdoecaaGreat
open Go Go.Ev
abbrev EL := List (Ev Tryz.prog)
theorem bft (b : Bool) : b = true ∨ b = false := Bool.eq_false_or_eq_true b
theorem sl0 : (∀ {p : Prop} [Decidable p], (decide p = true) = p) ∧ (∀ {p : Prop} [Decidable p], (decide p = false) ↔ ¬p) ∧ (∀ (b : Bool), (¬(b = true)) = (b = false)) ∧ (∀ {α : Type} [BEq α] [LawfulBEq α] {a b : α}, (a == b) = true ↔ a = b) ∧ (∀ {α : Type} [BEq α] [LawfulBEq α] {a b : α}, (a == b) = false ↔ a ≠ b) ∧ (∀ (a b : Bool), (D.bool a = D.bool b) = (a = b)) := ⟨@decide_eq_true_eq, @decide_eq_false_iff_not, @Bool.not_eq_true, @beq_iff_eq, @beq_eq_false_iff_ne, @D.bool.injEq⟩
theorem sl2 : (∀ n : Int, IntKind.i8.wrap n = (n + 128) % 256 - 128) ∧ (∀ n : Int, IntKind.u8.wrap n = n % 256) ∧ (∀ n : Int, IntKind.i64.wrap n = (n + 9223372036854775808) % 18446744073709551616 - 9223372036854775808) ∧ (∀ n : Int, IntKind.u64.wrap n = n % 18446744073709551616) ∧ (∀ {p : Prop} [Decidable p], (decide p = true) = p) ∧ (∀ {p : Prop} [Decidable p], (decide p = false) ↔ ¬p) ∧ (∀ {α : Type} [BEq α] [LawfulBEq α] {a b : α}, (a == b) = true ↔ a = b) ∧ (∀ {α : Type} [BEq α] [LawfulBEq α] {a b : α}, (a != b) = true ↔ a ≠ b) ∧ (∀ {α : Type} [BEq α] [LawfulBEq α] {a b : α}, (a == b) = false ↔ a ≠ b) ∧ (∀ {α : Type} [BEq α] [LawfulBEq α] {a b : α}, (a != b) = false ↔ a = b) ∧ (∀ (b : Bool), ((!b) = true) = (b = false)) ∧ (∀ (b : Bool), ((!b) = false) = (b = true)) ∧ (∀ (a b : Bool), ((a && b) = true) = (a = true ∧ b = true)) ∧ (∀ (a b : Bool), ((a || b) = true) = (a = true ∨ b = true)) := ⟨@w_i8, @w_u8, @w_i64, @w_u64, @decide_eq_true_eq, @decide_eq_false_iff_not, @beq_iff_eq, @bne_iff_ne, @beq_eq_false_iff_ne, @bne_eq_false_iff_eq, @Bool.not_eq_true', @Bool.not_eq_false', @Bool.and_eq_true, @Bool.or_eq_true⟩
def OE (n : Nat) (f : Func) : Prop := ∀ {x : List D} {d : D} (o : EL), evalRet Tryz.prog f x o = some (d, selfs o True) → Ret Tryz.prog n x d
theorem o0 : OE 0 Tryz.f0 := Ret.of_eval mixed Tryz.func0 (by kernel_rfl)
theorem o1 : OE 1 Tryz.f1 := Ret.of_eval mixed Tryz.func1 (by kernel_rfl)
theorem o2 : OE 2 Tryz.f2 := Ret.of_eval mixed Tryz.func2 (by kernel_rfl)
theorem o3 : OE 3 Tryz.f3 := Ret.of_eval mixed Tryz.func3 (by kernel_rfl)
theorem o4 : OE 4 Tryz.f4 := Ret.of_eval mixed Tryz.func4 (by kernel_rfl)
theorem o5 : OE 5 Tryz.f5 := Ret.of_eval mixed Tryz.func5 (by kernel_rfl)
theorem o8 : OE 8 Tryz.f8 := Ret.of_eval mixed Tryz.func8 (by kernel_rfl)
theorem o10 : OE 10 Tryz.f10 := Ret.of_eval mixed Tryz.func10 (by kernel_rfl)
theorem o19 : OE 19 Tryz.f19 := Ret.of_eval mixed Tryz.func19 (by kernel_rfl)
theorem o21 : OE 21 Tryz.f21 := Ret.of_eval mixed Tryz.func21 (by kernel_rfl)
theorem o23 : OE 23 Tryz.f23 := Ret.of_eval mixed Tryz.func23 (by kernel_rfl)
theorem o25 : OE 25 Tryz.f25 := Ret.of_eval mixed Tryz.func25 (by kernel_rfl)
theorem o28 : OE 28 Tryz.f28 := Ret.of_eval mixed Tryz.func28 (by kernel_rfl)
theorem o29 : OE 29 Tryz.f29 := Ret.of_eval mixed Tryz.func29 (by kernel_rfl)
theorem o53 : OE 53 Tryz.f53 := Ret.of_eval mixed Tryz.func53 (by kernel_rfl)
theorem o54 : OE 54 Tryz.f54 := Ret.of_eval mixed Tryz.func54 (by kernel_rfl)
theorem o55 : OE 55 Tryz.f55 := Ret.of_eval mixed Tryz.func55 (by kernel_rfl)
theorem o56 : OE 56 Tryz.f56 := Ret.of_eval mixed Tryz.func56 (by kernel_rfl)
theorem o71 : OE 71 Tryz.f71 := Ret.of_eval mixed Tryz.func71 (by kernel_rfl)
theorem o72 : OE 72 Tryz.f72 := Ret.of_eval mixed Tryz.func72 (by kernel_rfl)
theorem o73 : OE 73 Tryz.f73 := Ret.of_eval mixed Tryz.func73 (by kernel_rfl)
theorem o99 : OE 99 Tryz.f99 := Ret.of_eval mixed Tryz.func99 (by kernel_rfl)
theorem o100 : OE 100 Tryz.f100 := Ret.of_eval mixed Tryz.func100 (by kernel_rfl)
theorem o101 : OE 101 Tryz.f101 := Ret.of_eval mixed Tryz.func101 (by kernel_rfl)
theorem o102 : OE 102 Tryz.f102 := Ret.of_eval mixed Tryz.func102 (by kernel_rfl)
theorem o103 : OE 103 Tryz.f103 := Ret.of_eval mixed Tryz.func103 (by kernel_rfl)
theorem o104 : OE 104 Tryz.f104 := Ret.of_eval mixed Tryz.func104 (by kernel_rfl)
theorem o105 : OE 105 Tryz.f105 := Ret.of_eval mixed Tryz.func105 (by kernel_rfl)
theorem o107 : OE 107 Tryz.f107 := Ret.of_eval mixed Tryz.func107 (by kernel_rfl)
theorem o111 : OE 111 Tryz.f111 := Ret.of_eval mixed Tryz.func111 (by kernel_rfl)
theorem o112 : OE 112 Tryz.f112 := Ret.of_eval mixed Tryz.func112 (by kernel_rfl)
theorem o113 : OE 113 Tryz.f113 := Ret.of_eval mixed Tryz.func113 (by kernel_rfl)
theorem o114 : OE 114 Tryz.f114 := Ret.of_eval mixed Tryz.func114 (by kernel_rfl)
theorem o115 : OE 115 Tryz.f115 := Ret.of_eval mixed Tryz.func115 (by kernel_rfl)
theorem o125 : OE 125 Tryz.f125 := Ret.of_eval mixed Tryz.func125 (by kernel_rfl)
theorem o137 : OE 137 Tryz.f137 := Ret.of_eval mixed Tryz.func137 (by kernel_rfl)
theorem o138 : OE 138 Tryz.f138 := Ret.of_eval mixed Tryz.func138 (by kernel_rfl)
theorem o139 : OE 139 Tryz.f139 := Ret.of_eval mixed Tryz.func139 (by kernel_rfl)
theorem o141 : OE 141 Tryz.f141 := Ret.of_eval mixed Tryz.func141 (by kernel_rfl)
theorem o142 : OE 142 Tryz.f142 := Ret.of_eval mixed Tryz.func142 (by kernel_rfl)
theorem o144 : OE 144 Tryz.f144 := Ret.of_eval mixed Tryz.func144 (by kernel_rfl)
theorem o145 : OE 145 Tryz.f145 := Ret.of_eval mixed Tryz.func145 (by kernel_rfl)
theorem o148 : OE 148 Tryz.f148 := Ret.of_eval mixed Tryz.func148 (by kernel_rfl)
theorem o149 : OE 149 Tryz.f149 := Ret.of_eval mixed Tryz.func149 (by kernel_rfl)
theorem o150 : OE 150 Tryz.f150 := Ret.of_eval mixed Tryz.func150 (by kernel_rfl)
theorem o152 : OE 152 Tryz.f152 := Ret.of_eval mixed Tryz.func152 (by kernel_rfl)
theorem o166 : OE 166 Tryz.f166 := Ret.of_eval mixed Tryz.func166 (by kernel_rfl)
theorem o174 : OE 174 Tryz.f174 := Ret.of_eval mixed Tryz.func174 (by kernel_rfl)
theorem o175 : OE 175 Tryz.f175 := Ret.of_eval mixed Tryz.func175 (by kernel_rfl)
theorem o176 : OE 176 Tryz.f176 := Ret.of_eval mixed Tryz.func176 (by kernel_rfl)
end Go.Proofs.YtkpneibifdoecaaGreat

namespace Go.Ev
open Go
def readsX (op dst src base : Int) : Int :=
  if op = 0 then sh8 src
  else if op = 1 ∨ op = 28 ∨ op = 29 then 0
  else if 20 ≤ op ∧ op ≤ 22 then or64 (sh8 dst) (sh8 1)
  else if op = 24 then or64 (or64 (sh8 dst) (sh8 0)) (sh8 2)
  else if op = 26 then sh8 base
  else if op = 27 then or64 (sh8 base) (sh8 src)
  else if op = 30 then 17
  else if op = 31 then 1477
  else if shapeM op = 1 ∨ shapeM op = 2 ∨ shapeM op = 6 then or64 (sh8 dst) (sh8 src)
  else sh8 dst
def writesX (op dst : Int) : Int :=
  if op = 7 ∨ op = 8 ∨ op = 14 ∨ op = 15 ∨ op = 27 ∨ op = 28 ∨ op = 29 then 0
  else if op = 24 then 5
  else if op = 30 then 16
  else if op = 31 then 2051
  else sh8 dst
def readsXX (op w dst src base disp imm cc : Int) : Int := if mayX op w dst src base disp imm cc then readsX op dst src base else 0
def writesXX (op w dst src base disp imm cc : Int) : Int := if mayX op w dst src base disp imm cc then writesX op dst else 0
end Go.Ev

namespace Go.Ev
open Go
def addC (w a b : Int) : Bool := decide (cutM (u64 (a + b)) w < cutM a w)
def addO (w a b : Int) : Bool := negM (and64u (xor64 a (u64 (a + b))) (xor64 b (u64 (a + b)))) w
def subC (w a b : Int) : Bool := decide (cutM a w < cutM b w)
def subO (w a b : Int) : Bool := negM (and64u (xor64 a b) (xor64 a (u64 (a - b)))) w
theorem sign_a (v : Int) : IntKind.u64.wrap (IntKind.i64.wrap (IntKind.i8.wrap v)) = IntKind.u64.wrap (IntKind.i8.wrap v) := by rw [w_u64, w_u64, w_i64, w_i8]; omega
theorem sign_b (v : Int) : IntKind.u64.wrap (IntKind.i64.wrap (IntKind.i16.wrap v)) = IntKind.u64.wrap (IntKind.i16.wrap v) := by rw [w_u64, w_u64, w_i64, w_i16]; omega
theorem sign_c (v : Int) : IntKind.u64.wrap (IntKind.i64.wrap (IntKind.i32.wrap v)) = IntKind.u64.wrap (IntKind.i32.wrap v) := by rw [w_u64, w_u64, w_i64, w_i32]; omega
def holdM (cc : Int) (c z s o : Bool) : Bool :=
  if cc = 2 then c else if cc = 3 then !c else if cc = 4 then z else if cc = 5 then !z else if cc = 6 then (c || z) else if cc = 7 then !(c || z)
  else if cc = 12 then (s != o) else if cc = 13 then !(s != o) else if cc = 14 then (z || (s != o)) else !(z || (s != o))
def wrOp (op : Int) : Bool := !(decide (op = 7 ∨ op = 8 ∨ op = 14 ∨ op = 15 ∨ op = 27 ∨ op = 28 ∨ op = 29))
theorem sh8_pos {d : Int} (h0 : 0 ≤ d) (h1 : d ≤ 15) : sh8 d ≠ 0 := by
 obtain ⟨n, rfl⟩ := fin16 h0 h1
 clear h0 h1
 revert n
 decide +kernel
theorem wr_nz {op w dst src base disp imm cc : Int} (hm : mayX op w dst src base disp imm cc = true) (d0 : 0 ≤ dst) (d1 : dst ≤ 15) (hop : wrOp op = true) : (writesXX op w dst src base disp imm cc == 0) = false := by
 rw [beq_eq_false_iff_ne]
 unfold writesXX
 rw [if_pos hm]
 unfold writesX
 simp only [wrOp, Bool.not_eq_true', decide_eq_false_iff_not] at hop
 rw [if_neg hop]
 split
 ·decide
 ·split
  ·decide
  ·split
   ·decide
   ·exact sh8_pos d0 d1
theorem wr_z {op w dst src base disp imm cc : Int} (hop : wrOp op = false) : (writesXX op w dst src base disp imm cc == 0) = true := by
 rw [beq_iff_eq]
 unfold writesXX writesX
 simp only [wrOp, Bool.not_eq_false', decide_eq_true_eq] at hop
 rw [if_pos hop]
 split <;> rfl
end Go.Ev

namespace Go.Ev
open Go
def inU (n : Int) : Prop := 0 ≤ n ∧ n ≤ 18446744073709551615
theorem cut_cut (v w : Int) : cutM (cutM v w) w = cutM v w := by
 unfold cutM
 split
 ·omega
 ·split
  ·omega
  ·split
   ·omega
   ·rfl
def bitOf (w k : Int) : Int := IntKind.i64.wrap ((BitVec.ofInt 64 (w.fdiv (2 ^ (min k.toNat 64))) &&& BitVec.ofInt 64 1).toNat : Int)
def mayP (w dst src : Int) : Bool := longM w && regM dst && regM src
end Go.Ev

namespace Go.Ev
open Go
theorem cases16 {p : Int → Prop} (h0 : p 0) (h1 : p 1) (h2 : p 2) (h3 : p 3) (h4 : p 4) (h5 : p 5) (h6 : p 6) (h7 : p 7) (h8 : p 8) (h9 : p 9) (h10 : p 10) (h11 : p 11) (h12 : p 12) (h13 : p 13) (h14 : p 14) (h15 : p 15) : ∀ k : Int, 0 ≤ k → k ≤ 15 → p k := by
 intro k k0 k1
 have : k = 0 ∨ k = 1 ∨ k = 2 ∨ k = 3 ∨ k = 4 ∨ k = 5 ∨ k = 6 ∨ k = 7 ∨ k = 8 ∨ k = 9 ∨ k = 10 ∨ k = 11 ∨ k = 12 ∨ k = 13 ∨ k = 14 ∨ k = 15 := by omega
 rcases this with rfl | rfl | rfl | rfl | rfl | rfl | rfl | rfl | rfl | rfl | rfl | rfl | rfl | rfl | rfl | rfl
 ·exact h0
 ·exact h1
 ·exact h2
 ·exact h3
 ·exact h4
 ·exact h5
 ·exact h6
 ·exact h7
 ·exact h8
 ·exact h9
 ·exact h10
 ·exact h11
 ·exact h12
 ·exact h13
 ·exact h14
 ·exact h15
theorem may_long {sh w dst src base disp imm cc : Int} (h : mayS sh w dst src base disp imm cc = true) (hs : sh = 1 ∨ sh = 2 ∨ sh = 3 ∨ sh = 4 ∨ sh = 5 ∨ sh = 6) : longM w = true := by
 rcases hs with rfl | rfl | rfl | rfl | rfl | rfl <;> simp [mayS] at h <;> first | exact h.1 | exact h.1.1 | exact h
theorem may_cc {w dst src base disp imm cc : Int} (h : mayS 6 w dst src base disp imm cc = true) : ccM cc = true := by
 simp [mayS] at h; exact h.2
theorem may_cc' {w dst src base disp imm cc : Int} (h : mayS 10 w dst src base disp imm cc = true) : ccM cc = true := by
 simp [mayS] at h; exact h.2
end Go.Ev
