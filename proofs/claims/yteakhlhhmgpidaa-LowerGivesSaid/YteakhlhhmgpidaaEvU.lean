/- Loops by their place in a function's text; equal forms of what a loop comes to. -/
import Derived.Test.YteakhlhhmgpidaaEvQ
import Derived.Test.YteakhlhhmgpidaaEvT
namespace Go.Ev
open Go Go.RowKit
set_option linter.unusedVariables false
set_option linter.unusedSimpArgs false

/-- The bodies of a code's loops, in the text's order, an outer one ahead of its inner ones. -/
def loopsOf : Code → List Code
  | .seq a b => loopsOf a ++ loopsOf b
  | .cond _ a b => loopsOf a ++ loopsOf b
  | .block _ a => loopsOf a
  | .scope a => loopsOf a
  | .loop a => a :: loopsOf a
  | .rangeFunc _ _ a b => loopsOf a ++ loopsOf b
  | _ => []
/-- A function's loop. -/
def loopB (fn : Func) (i : Nat) : Code := match fn.body with
  | some c => (loopsOf c).getD i .skip
  | none => .skip

section
variable {P : Program}
theorem Rounds.cast {c : Code} {n0 : Nat} {t t1 : List D} {s s1 : List Ob} {ex ex1 : Ex} {t' t1' : List D} {s' s1' : List Ob} (h : Rounds P c n0 t s ex t' s') (h1 : t = t1) (h2 : s = s1) (h3 : ex = ex1) (h4 : t' = t1') (h5 : s' = s1') : Rounds P c n0 t1 s1 ex1 t1' s1' := by
  subst h1 h2 h3 h4 h5; exact h
theorem Rounds.from {c : Code} {n0 : Nat} {t t1 : List D} {s s1 : List Ob} {ex : Ex} {t' : List D} {s' : List Ob} (h : Rounds P c n0 t s ex t' s') (h1 : t = t1) (h2 : s = s1) : Rounds P c n0 t1 s1 ex t' s' := by
  subst h1 h2; exact h
theorem Rounds.into {c : Code} {n0 : Nat} {t : List D} {s : List Ob} {ex : Ex} {t' t1' : List D} {s' s1' : List Ob} (h : Rounds P c n0 t s ex t' s') (h4 : t' = t1') (h5 : s' = s1') : Rounds P c n0 t s ex t1' s1' := by
  subst h4 h5; exact h
theorem nn_wrap {k : IntKind} (h : k.signed = false) (n : Int) : decide (0 ≤ k.wrap n) = true := by
  rw [decide_eq_true_eq]
  simp only [IntKind.wrap, h, Bool.false_and]
  exact Int.emod_nonneg _ (by cases k <;> simp [IntKind.bits])
theorem nn_u64 (n : Int) : decide (0 ≤ IntKind.u64.wrap n) = true := nn_wrap rfl n
theorem nn_u32 (n : Int) : decide (0 ≤ IntKind.u32.wrap n) = true := nn_wrap rfl n
theorem nn_u16 (n : Int) : decide (0 ≤ IntKind.u16.wrap n) = true := nn_wrap rfl n
theorem nn_u8 (n : Int) : decide (0 ≤ IntKind.u8.wrap n) = true := nn_wrap rfl n
theorem selfI {x : Int} : (x == x) = true := beq_self_eq_true x
theorem selfB {x : Bool} : (x == x) = true := beq_self_eq_true x
theorem wkL_rep {C : Nat → Nat → Option Value} {l m : List D} {vs : Array Value} (h : RepL (bareOf C) l vs) (hw : wkL l m) : RepL (bareOf C) m vs := by
  obtain ⟨h1, h2⟩ := wkL_get hw
  refine ⟨by rw [← h1]; exact h.1, fun i d v p q => ?_⟩
  have hlt : i < l.length := by rw [h.1]; exact (Array.getElem?_eq_some_iff.1 q).1
  exact (h.2 i l[i] v (by simp [hlt]) q).wk rfl (h2 i _ _ (by simp [hlt]) p)
/-- A contract at arguments of which more is known. -/
theorem Ret.args {f : FuncId} {as as' : List D} {d : D} (h : Ret P f as d) (hw : wkL as' as) : Ret P f as' d :=
  ⟨h.ent, fun w C vs hC ha => h.run w C vs hC (wkL_rep ha hw)⟩
theorem RoundRun.cast {c : Code} {sp : HS} {n0 : Nat} {t : List D} {s : List Ob} {ex : Ex} {t' t1' : List D} {s' s1' : List Ob} (h : RoundRun P c sp n0 t s ex t' s') (h4 : t' = t1') (h5 : s' = s1') : RoundRun P c sp n0 t s ex t1' s1' := by
  subst h4 h5; exact h
end
end Go.Ev
