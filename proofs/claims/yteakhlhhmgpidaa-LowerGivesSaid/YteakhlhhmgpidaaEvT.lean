/- Small laws that printed contracts lean on: tests from what is known; a contract with weaker flags. -/
import Derived.Test.YteakhlhhmgpidaaEvP
import Derived.Test.YteakhlhhmgpidaaEvS
import Derived.KernelRfl
namespace Go.Ev
open Go Go.RowKit
set_option linter.unusedVariables false
set_option linter.unusedSimpArgs false

theorem andF {x y : Bool} (h : x = false) : (x && y) = false := by simp [h]
theorem andT {x y v : Bool} (h : x = true) (k : y = v) : (x && y) = v := by simp [h, k]
theorem orT {x y : Bool} (h : x = true) : (x || y) = true := by simp [h]
theorem orF {x y v : Bool} (h : x = false) (k : y = v) : (x || y) = v := by simp [h, k]
theorem leOf {x c c' : Int} {v : Bool} (h : decide (x < c') = v) (hc : c' = c + 1) : decide (x ≤ c) = v := by
  subst hc; rw [← h]; exact decide_eq_decide.2 (by omega)
theorem ltOfL {y c c' : Int} {v : Bool} (h : decide (y < c') = v) (hc : c' = c + 1) : decide (c < y) = !v := by
  subst hc; rw [← h, ← decide_not]; exact decide_eq_decide.2 (by omega)
theorem leOfL {y c c' : Int} {v : Bool} (h : decide (y < c') = v) (hc : c' = c) : decide (c ≤ y) = !v := by
  subst hc; rw [← h, ← decide_not]; exact decide_eq_decide.2 (by omega)
theorem ltUp {x d c : Int} (h : decide (x < d) = true) (hc : d ≤ c) : decide (x < c) = true := by
  simp only [decide_eq_true_eq] at h ⊢; omega
theorem ltDown {x d c : Int} (h : decide (x < d) = false) (hc : c ≤ d) : decide (x < c) = false := by
  simp only [decide_eq_false_iff_not] at h ⊢; omega
theorem eqOfLt {x d c : Int} (h : decide (x < d) = true) (hc : d ≤ c) : (x == c) = false := by
  simp only [decide_eq_true_eq] at h; simp only [beq_eq_false_iff_ne]; omega
theorem eqOfGe {x d c : Int} (h : decide (x < d) = false) (hc : c < d) : (x == c) = false := by
  simp only [decide_eq_false_iff_not] at h; simp only [beq_eq_false_iff_ne]; omega
theorem neOf {x c : Int} (h : ¬ x = c) : (x == c) = false := by simp [h]
theorem isOf {x c : Int} (h : x = c) : (x == c) = true := by simp [h]
theorem eqIs {x c d : Int} {v : Bool} (h : x = c) (hv : (c == d) = v) : (x == d) = v := by rw [h, hv]
theorem ltIs {x c d : Int} {v : Bool} (h : x = c) (hv : decide (c < d) = v) : decide (x < d) = v := by rw [h, hv]

/-! ### Short forms, for printed evidence -/
def tT {P : Program} : Ev P := .tst true true rfl
def tF {P : Program} : Ev P := .tst false false rfl
def tC {P : Program} {q v : Bool} (h : q = v) : Ev P := .tst q v h
theorem eT {b v : Bool} (h : b = v) : (b == true) = (v == true) := by rw [h]
theorem eF {b v : Bool} (h : b = v) : (b == false) = (v == false) := by rw [h]
theorem nT {b v : Bool} (h : b = v) : (b != true) = (v != true) := by rw [h]
theorem nF {b v : Bool} (h : b = v) : (b != false) = (v != false) := by rw [h]
theorem nt {b v : Bool} (h : b = v) : (!b) = !v := by rw [h]
theorem leC {x c' : Int} {v : Bool} (c : Int) (h : decide (x < c') = v) (hc : c' = c + 1 := by decide) : decide (x ≤ c) = v := leOf h hc
theorem ltL {y c' : Int} {v : Bool} (c : Int) (h : decide (y < c') = v) (hc : c' = c + 1 := by decide) : decide (c < y) = !v := ltOfL h hc
theorem leL {y c' : Int} {v : Bool} (c : Int) (h : decide (y < c') = v) (hc : c' = c := by decide) : decide (c ≤ y) = !v := leOfL h hc
theorem ltU {x d : Int} (c : Int) (h : decide (x < d) = true) (hc : d ≤ c := by decide) : decide (x < c) = true := ltUp h hc
theorem ltD {x d : Int} (c : Int) (h : decide (x < d) = false) (hc : c ≤ d := by decide) : decide (x < c) = false := ltDown h hc
theorem eqL {x d : Int} (c : Int) (h : decide (x < d) = true) (hc : d ≤ c := by decide) : (x == c) = false := eqOfLt h hc
theorem eqG {x d : Int} (c : Int) (h : decide (x < d) = false) (hc : c < d := by decide) : (x == c) = false := eqOfGe h hc
theorem eqI {x c : Int} (d : Int) (v : Bool) (h : x = c) (hv : (c == d) = v := by decide) : (x == d) = v := eqIs h hv
theorem ltI {x c : Int} (d : Int) (v : Bool) (h : x = c) (hv : decide (c < d) = v := by decide) : decide (x < d) = v := ltIs h hv

/-! ### Weaker flags -/
def wkO : Own → Own → Nat → Prop
  | _, .no, _ => True
  | .tight, .tight, _ => True
  | .tight, .fresh n, sz => n = sz
  | .fresh a, .fresh b, _ => a = b
  | _, _, _ => False
mutual
def wk : D → D → Prop
  | .lst o sz xs, .lst o' sz' ys => xs = ys ∧ (sz = sz' ∨ xs = []) ∧ wkO o o' sz' ∧ (o = .tight ∨ sz = sz')
  | .agg l, .agg m => wkL l m
  | .tup l, .tup m => wkL l m
  | a, b => a = b
def wkL : List D → List D → Prop
  | [], [] => True
  | a :: l, b :: m => wk a b ∧ wkL l m
  | _, _ => False
end

theorem wkL_get : ∀ {l m : List D}, wkL l m → l.length = m.length ∧ ∀ (i : Nat) (a b : D), l[i]? = some a → m[i]? = some b → wk a b
  | [], [], _ => ⟨rfl, fun i a b h => by simp at h⟩
  | [], _ :: _, h => by simp [wkL] at h
  | _ :: _, [], h => by simp [wkL] at h
  | a :: l, b :: m, h => by
    rw [wkL] at h
    obtain ⟨h1, h2⟩ := wkL_get h.2
    refine ⟨by simp [h1], fun i x y p q => ?_⟩
    cases i with
    | zero => simp at p q; subst p q; exact h.1
    | succ i => simp at p q; exact h2 i x y p q

theorem Rep.wk {C : Nat → Nat → Option Value} {M : MM} (hM : M = bareOf C) {d : D} {v : Value} (h : Rep M d v) : ∀ {d' : D}, wk d d' → Rep M d' v := by
  induction h with
  | lst b off vs hl hcap ha hsz hc hr hst ho ih =>
    intro d' w
    rename_i M o sz xs _ _ _
    cases d' <;> simp only [Ev.wk, reduceCtorEq] at w
    obtain ⟨rfl, w2, w3, _⟩ := w
    rename_i o' _ _
    refine Rep.resize (sz := sz) (.lst b off vs hl hcap ha hsz hc hr hst ?_) w2
    cases o <;> cases o' <;> first | trivial | exact ho | (simp only [wkO] at w3)
  | agg h r ih =>
    intro d' w
    cases d' <;> simp only [Ev.wk, reduceCtorEq] at w
    rename_i _ cs vs _
    obtain ⟨h1, h2⟩ := wkL_get w
    refine .agg (h1 ▸ h) fun i d v a b => ?_
    have hlt : i < cs.length := by
      rw [h]
      exact (Array.getElem?_eq_some_iff.1 b).1
    exact ih i cs[i] v (by simp [hlt]) b hM (h2 i _ _ (by simp [hlt]) a)
  | tup h r ih =>
    intro d' w
    cases d' <;> simp only [Ev.wk, reduceCtorEq] at w
    rename_i _ cs vs _
    obtain ⟨h1, h2⟩ := wkL_get w
    refine .tup (h1 ▸ h) fun i d v a b => ?_
    have hlt : i < cs.length := by
      rw [h]
      exact (Array.getElem?_eq_some_iff.1 b).1
    exact ih i cs[i] v (by simp [hlt]) b hM (h2 i _ _ (by simp [hlt]) a)
  | undef v => intro d' w; cases d' <;> simp only [Ev.wk, reduceCtorEq] at w; exact .undef v
  | int k n => intro d' w; cases d' <;> simp only [Ev.wk, reduceCtorEq] at w; rw [← w]; exact .int k n
  | bool b => intro d' w; cases d' <;> simp only [Ev.wk, reduceCtorEq] at w; rw [← w]; exact .bool b
  | str s => intro d' w; cases d' <;> simp only [Ev.wk, reduceCtorEq] at w; rw [← w]; exact .str s
  | nilp => intro d' w; cases d' <;> simp only [Ev.wk, reduceCtorEq] at w; exact .nilp
  | nilf => intro d' w; cases d' <;> simp only [Ev.wk, reduceCtorEq] at w; exact .nilf
  | ptr q h => intro d' w; cases d' <;> simp only [Ev.wk, reduceCtorEq] at w; rw [← w]; exact .ptr q h
  | eptr q vs hx hc hr ih => intro d' w; cases d' <;> simp only [Ev.wk, reduceCtorEq] at w; rw [← w]; exact .eptr q vs hx hc hr
  | fn h1 h2 r1 r2 i1 i2 => intro d' w; cases d' <;> simp only [Ev.wk, reduceCtorEq] at w; rw [← w]; exact .fn h1 h2 r1 r2

theorem fresh_wk {B : Nat} {w : World} {C : Nat → Nat → Option Value} {d d' : D} {v : Value} (hr : Rep (bareOf C) d v) (hf : ∀ sz sz' xs, d = .lst (.fresh sz) sz' xs → ∃ a len cap, v = .slice a len cap ∧ sz' = sz ∧ FreshRoom B w C sz a len cap) (hw : wk d d') :
    ∀ sz sz' xs, d' = .lst (.fresh sz) sz' xs → ∃ a len cap, v = .slice a len cap ∧ sz' = sz ∧ FreshRoom B w C sz a len cap := by
  rintro sz sz' xs rfl
  cases d <;> simp only [wk, reduceCtorEq] at hw
  rename_i o sz0 xs0
  obtain ⟨rfl, w2, w3, w4⟩ := hw
  cases o with
  | no => simp only [wkO] at w3
  | tok a b => simp only [wkO] at w3
  | tight =>
    simp only [wkO] at w3
    subst w3
    cases hr with
    | lst b off vs hl hcap ha hsz hc hr hst ho => exact ⟨_, _, _, rfl, rfl, .inl ho⟩
  | fresh k =>
    simp only [wkO] at w3
    subst w3
    rcases w4 with w4 | rfl
    · cases w4
    · exact hf _ _ _ rfl

/-- A contract with weaker flags. -/
theorem Ret.to {P : Program} {f : FuncId} {args : List D} {d d' : D} (h : Ret P f args d) (hw : wk d d') : Ret P f args d' := by
  refine ⟨h.ent, fun w C vs hC ha => Calls.mono (h.run w C vs hC ha) ?_⟩
  rintro e w' ⟨v, C', rfl, hext, hrep, hf1, hf2⟩
  refine ⟨v, C', rfl, hext, hrep.wk rfl hw, fresh_wk hrep hf1 hw, ?_⟩
  rintro ds vs rfl rfl i sz sz' xs hi
  cases d <;> simp only [wk, reduceCtorEq] at hw
  rename_i ds0
  obtain ⟨h1, h2⟩ := wkL_get hw
  have hlt : i < ds0.length := by
    rw [h1]
    rcases Nat.lt_or_ge i ds.length with q | q
    · exact q
    · rw [List.getElem?_eq_none q] at hi; cases hi
  cases hrep with
  | tup hl hr =>
    have hlv : i < vs.size := hl ▸ hlt
    have := fresh_wk (d := ds0[i]) (d' := .lst (.fresh sz) sz' xs) (v := vs[i]) (hr i _ _ (by simp [hlt]) (by simp [hlv])) (fun s1 s2 x e => by
      obtain ⟨a, len, cap, k1, k2⟩ := hf2 ds0 vs rfl rfl i s1 s2 x (by simp [hlt, e])
      exact ⟨a, len, cap, by simpa [hlv] using k1, k2⟩) (h2 i _ _ (by simp [hlt]) hi) sz sz' xs rfl
    obtain ⟨a, len, cap, k1, k2, k3⟩ := this
    exact ⟨a, len, cap, by simp [hlv, k1], k2, k3⟩

end Go.Ev
