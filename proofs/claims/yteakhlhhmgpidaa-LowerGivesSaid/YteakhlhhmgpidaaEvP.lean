/- From an evaluation to a contract of a function, and to a run of a piece of code. -/
import Derived.Test.YteakhlhhmgpidaaEvO
namespace Go.Ev
open Go Go.RowKit
set_option linter.unusedVariables false
set_option linter.unusedSimpArgs false

section
variable {P : Program}

theorem rep_outFlag {M : MM} {s : List Ob} {d : D} {v : Value} (h : Rep M d v) (hc : d.clean = true) : Rep (bareOf M.cell) (outFlag s d) v := by
  unfold outFlag
  split
  · rename_i id ver sz xs
    have h1 := h.toBare hc
    have : ∀ o : Own, (o = .no ∨ ∃ k, o = .fresh k) → Rep (bareOf M.cell) (.lst o sz xs) v := by
      intro o ho
      cases h1 with
      | lst b off vs hl hcap ha hsz hcc hr hst _ => exact .lst b off vs hl hcap ha hsz hcc hr hst (by rcases ho with rfl | ⟨k, rfl⟩ <;> trivial)
    split
    · split
      · exact this _ (.inr ⟨_, rfl⟩)
      · exact this _ (.inl rfl)
    · exact this _ (.inl rfl)
  · exact h.toBare hc

theorem demote_fresh {d : D} {sz sz' : Nat} {xs : List D} : d.demote ≠ .lst (.fresh sz) sz' xs := by
  intro h
  cases d <;> simp only [D.demote, reduceCtorEq] at h
  case lst o _ _ => cases o <;> simp [Own.demote] at h
theorem outFlag_fresh {w0 : Base} {M : MM} {own : Nat → Option Nat} {w : World} {s : List Ob} (hw : WRel w0 M own (stAt s) w) {d : D} {v : Value} (h : Rep M d v) {sz sz' : Nat} {xs : List D} (e : outFlag s d = .lst (.fresh sz) sz' xs) :
    ∃ a len cap, v = .slice a len cap ∧ sz' = sz ∧ FreshRoom w0.w.heap.size w M.cell sz a len cap := by
  unfold outFlag at e
  split at e
  · rename_i id ver sz0 xs0
    split at e
    · rename_i v' sz2 hs
      split at e
      · rename_i hb
        simp only [Bool.and_eq_true, Nat.beq_eq] at hb
        obtain ⟨rfl, rfl⟩ := hb
        simp only [D.lst.injEq, Own.fresh.injEq] at e
        obtain ⟨rfl, rfl, rfl⟩ := e
        obtain ⟨a, len, cap, k⟩ := hw.fam id ver sz0 hs
        cases h with
        | lst b off vs hl hcap ha hsz hcc hr hst ho =>
          have : M.hist id ver = some _ := ho
          rw [k.hist] at this
          obtain ⟨rfl, rfl, rfl⟩ := Value.slice.inj (Option.some.inj this)
          refine ⟨_, _, _, rfl, rfl, ?_⟩
          rcases k.room with q | ⟨b, vs, ty, fz, q, r⟩
          · exact .inl q
          · exact .inr ⟨b, vs, ty, fz, q, r.base, r.blk, r.fz, r.cap, r.none⟩
      · cases e
    · cases e
  · exact absurd e demote_fresh

theorem rep_outD {w0 : Base} {M : MM} {own : Nat → Option Nat} {w : World} {s : List Ob} (hw : WRel w0 M own (stAt s) w) {d : D} {v : Value} (h : Rep M d v) (hc : d.clean = true) : Rep (bareOf M.cell) (outD s d) v ∧ FreshD w0.w.heap.size w M.cell (outD s d) v := by
  by_cases ht : ∃ ds, d = .tup ds
  · obtain ⟨ds, rfl⟩ := ht
    cases h with
    | tup hl r =>
      rename_i vs
      rw [D.clean, D.cleanL_eq, List.all_eq_true] at hc
      refine ⟨.tup (by simpa using hl) ?_, ?_, ?_⟩
      · intro i d v a b
        rw [List.getElem?_map, Option.map_eq_some_iff] at a
        obtain ⟨d0, h0, rfl⟩ := a
        exact rep_outFlag (r i d0 v h0 b) (hc _ (List.mem_of_getElem? h0))
      · intro sz sz' xs e; simp [outD] at e
      · intro ds' vs' e1 e2 i sz sz' xs hi
        simp only [outD, D.tup.injEq] at e1
        obtain rfl := Value.tuple.inj e2
        subst e1
        rw [List.getElem?_map, Option.map_eq_some_iff] at hi
        obtain ⟨d0, h0, e⟩ := hi
        have hlt : i < vs.size := by
          rw [← hl]
          rcases Nat.lt_or_ge i ds.length with q | q
          · exact q
          · rw [List.getElem?_eq_none q] at h0; cases h0
        obtain ⟨a, len, cap, k1, k2, k3⟩ := outFlag_fresh hw (r i d0 vs[i] h0 (by simp [hlt])) e
        exact ⟨a, len, cap, by simp [hlt, k1], k2, k3⟩
  · have e : outD s d = outFlag s d := by
      cases d <;> first | rfl | exact absurd ⟨_, rfl⟩ ht
    rw [e]
    refine ⟨rep_outFlag h hc, fun sz sz' xs q => outFlag_fresh hw h q, fun ds vs q => ?_⟩
    exfalso
    unfold outFlag at q
    split at q
    · split at q
      · split at q <;> cases q
      · cases q
    · cases d <;> simp only [D.demote, reduceCtorEq] at q
      exact ht ⟨_, rfl⟩

/-- THE WAY from an evaluation to a contract. -/
theorem Ret.of_eval (hm : P.follows .mixedOrders = true) {f : FuncId} {fn : Func} (hf : P.funcs[f]? = some fn) (hn : (fn.name == "runtime.NumGoroutine") = false) {args : List D} {d : D} (o : List (Ev P))
    (h : evalRet P fn args o = some (d, selfs o True)) : Ret P f args d := by
  unfold evalRet at h
  obtain ⟨d0, s', z', h1, h2⟩ := bodyc_out (inlN_sound hm 20) hm hf hn h
  obtain ⟨hc, h1⟩ := chk_out h1
  split at h1
  · simp only [Option.some.injEq, Prod.mk.injEq] at h1
    obtain ⟨rfl, hz⟩ := h1
    have hrun := (h2 (by rw [hz]; exact selfs_true o trivial)).2
    refine ⟨hrun.ent, fun w C vs hC ha => Calls.mono (hrun.run ⟨w, C⟩ (bareOf C) (fun _ => none) w vs ?_ ⟨fun _ _ => rfl, fun _ _ _ => rfl⟩ ha) ?_⟩
    · refine ⟨.refl _ _, hC, ?_, ?_, ?_, ?_⟩
      · intro b o v k _; exact k
      · intro b i k; cases k
      · intro i cs k; simp [stAt] at k
      · intro i v sz k; simp [stAt] at k
    · rintro e w' ⟨v, M', own', rfl, q1, q2, q3, q4⟩
      obtain ⟨r1, r2⟩ := rep_outD q1 q4 hc
      exact ⟨v, M'.cell, rfl, ⟨q1.below, q3.cell, q1.old, q1.cells⟩, r1, r2⟩
  · cases h1

/-- A contract for equal arguments and an equal result. -/
theorem Ret.cast {f : FuncId} {args args' : List D} {d d' : D} (h : Ret P f args d) (ha : args = args') (hd : d = d') : Ret P f args' d' := ha ▸ hd ▸ h

/-- The way from an evaluation to a run of a piece of code. -/
theorem CodeRun.of_eval (hm : P.follows .mixedOrders = true) {c : Code} {t : List D} {s : List Ob} {ex : Ex} {t' : List D} {s' : List Ob} (o : List (Ev P))
    (h : evalCode P c t s o = some ((ex, t', s'), selfs o True)) : CodeRun P c t s ex t' s' := by
  unfold evalCode at h
  obtain ⟨ex1, t1, s1, z', h1, h2⟩ := codec_out (inlN_sound hm 20) hm c h
  split at h1
  · simp only [Option.some.injEq, Prod.mk.injEq] at h1
    obtain ⟨⟨rfl, rfl, rfl⟩, hz⟩ := h1
    exact (h2 (by rw [hz]; exact selfs_true o trivial)).2
  · cases h1

/-- What a round's evaluation tells. -/
structure RoundRun (P : Program) (c : Code) (sp : HS) (n0 : Nat) (t : List D) (s : List Ob) (ex : Ex) (t' : List D) (s' : List Ob) : Prop where
  run : ∃ t1 s1, CodeRun P c t s ex t1 s1 ∧ headc sp n0 t1 s1 = some (t', s')
theorem RoundRun.of_eval (hm : P.follows .mixedOrders = true) {c : Code} {sp : HS} {n0 : Nat} {t : List D} {s : List Ob} {ex : Ex} {t' : List D} {s' : List Ob} (o : List (Ev P))
    (h : evalRound P c sp n0 t s o = some ((ex, t', s'), selfs o True)) : RoundRun P c sp n0 t s ex t' s' := by
  unfold evalRound at h
  obtain ⟨ex1, t1, s1, z', h1, h2⟩ := codec_out (inlN_sound hm 20) hm c h
  split at h1
  · split at h1
    · rename_i t2 s2 hh
      simp only [Option.some.injEq, Prod.mk.injEq] at h1
      obtain ⟨⟨rfl, rfl, rfl⟩, hz⟩ := h1
      exact ⟨t1, s1, (h2 (by rw [hz]; exact selfs_true o trivial)).2, hh⟩
    · cases h1
  · cases h1
theorem Rounds.more {c : Code} {sp : HS} {n0 : Nat} {t t2 : List D} {s s2 : List Ob} {ex : Ex} {t' : List D} {s' : List Ob} (h : RoundRun P c sp n0 t s .norm t2 s2) (k : Rounds P c n0 t2 s2 ex t' s') : Rounds P c n0 t s ex t' s' :=
  let ⟨_, _, h1, h2⟩ := h.run
  .again sp h1 h2 k
theorem Rounds.last {c : Code} {sp : HS} {n0 : Nat} {t : List D} {s : List Ob} {ex : Ex} {t' : List D} {s' : List Ob} (h : RoundRun P c sp n0 t s ex t' s') (hx : ex ≠ .norm) : Rounds P c n0 t s ex t' s' :=
  let ⟨_, _, h1, h2⟩ := h.run
  .out sp h1 hx h2

end
end Go.Ev
