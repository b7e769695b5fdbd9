/- Values without addresses (D), how they stand for the model's values in a view of memory (Rep), and the evaluator's store. No program is in sight here. -/
import Derived.Calls
import Derived.Orders
import Derived.Below
namespace Go.Ev
open Go Go.RowKit
set_option linter.unusedVariables false
set_option linter.unusedSimpArgs false

/-- What is known of a slice's room behind its end: nothing; none is there; a family's own handle; a new one (element's size). -/
inductive Own where
  | no
  | tight
  | tok (t ver : Nat)
  | fresh (sz : Nat)

/-- A value without addresses. -/
inductive D where
  | undef
  | int (k : IntKind) (n : Int)
  | bool (b : Bool)
  | str (s : ByteArray)
  | nilp
  | ptr (dyn : Bool) (id off : Nat)
  | eptr (dyn : Bool) (x : D) (off : Nat)
  | lst (o : Own) (sz : Nat) (xs : List D)
  | nilf
  | fn (f : Fn) (first cap : List D)
  | agg (cs : List D)
  | tup (vs : List D)

/-- The cells that a value takes. -/
def D.cells : D → Option (List D)
  | .agg cs => some cs
  | .undef => none
  | .tup _ => none
  | d => some [d]

/-- What a single cell may hold. -/
def storable : D → Bool
  | .undef => false
  | .agg _ => false
  | .tup _ => false
  | _ => true

/-- A view of memory: cells that stay, the blocks of boxes, the headers of slices' families. -/
structure MM where
  cell : Nat → Nat → Option Value
  box : Nat → Option Nat
  hist : Nat → Nat → Option Value

def MM.bare (M : MM) : MM := ⟨M.cell, fun _ => none, fun _ _ => none⟩
def bareOf (C : Nat → Nat → Option Value) : MM := ⟨C, fun _ => none, fun _ _ => none⟩

def MM.owns (M : MM) : Own → Option Addr → Nat → Nat → Prop
  | .no, _, _, _ => True
  | .fresh _, _, _, _ => True
  | .tight, _, len, cap => cap = len
  | .tok t v, a, len, cap => M.hist t v = some (.slice a len cap)

/-- 'd' stands for the value 'v'. -/
inductive Rep : MM → D → Value → Prop
  | undef {M : MM} (v : Value) : Rep M .undef v
  | int {M : MM} (k : IntKind) (n : Int) : Rep M (.int k n) (.int k n)
  | bool {M : MM} (b : Bool) : Rep M (.bool b) (.bool b)
  | str {M : MM} (s : ByteArray) : Rep M (.str s) (.string s)
  | nilp {M : MM} : Rep M .nilp (.pointer none)
  | ptr {M : MM} (dyn : Bool) {id off b : Nat} (h : M.box id = some b) : Rep M (.ptr dyn id off) (.pointer (some ⟨b, off, none⟩))
  | eptr {M : MM} (dyn : Bool) {x : D} {cs : List D} {off b base : Nat} (vs : Nat → Value) (hx : x.cells = some cs)
      (hc : ∀ (j : Nat) (c : D), cs[j]? = some c → M.cell b (base + j) = some (vs j)) (hr : ∀ (j : Nat) (c : D), cs[j]? = some c → Rep M.bare c (vs j)) :
      Rep M (.eptr dyn x off) (.pointer (some ⟨b, base + off, none⟩))
  | lst {M : MM} {o : Own} {sz : Nat} {xs : List D} {a : Option Addr} {len cap : Nat} (b off : Nat) (vs : Nat → Nat → Value)
      (hl : xs.length = len) (hcap : len ≤ cap) (ha : xs ≠ [] → a = some ⟨b, off, none⟩)
      (hsz : ∀ (i : Nat) (x : D), xs[i]? = some x → ∃ cs : List D, x.cells = some cs ∧ cs.length = sz)
      (hc : ∀ (i : Nat) (x : D) (cs : List D) (j : Nat) (c : D), xs[i]? = some x → x.cells = some cs → cs[j]? = some c → M.cell b (off + i * sz + j) = some (vs i j))
      (hr : ∀ (i : Nat) (x : D) (cs : List D) (j : Nat) (c : D), xs[i]? = some x → x.cells = some cs → cs[j]? = some c → Rep M.bare c (vs i j))
      (hst : ∀ (i : Nat) (x : D) (cs : List D) (c : D), xs[i]? = some x → x.cells = some cs → c ∈ cs → storable c = true)
      (ho : M.owns o a len cap) : Rep M (.lst o sz xs) (.slice a len cap)
  | nilf {M : MM} : Rep M .nilf .nilFunc
  | fn {M : MM} {f : Fn} {first cap : List D} {fv cv : Array Value} (h1 : first.length = fv.size) (h2 : cap.length = cv.size)
      (r1 : ∀ (i : Nat) (d : D) (v : Value), first[i]? = some d → fv[i]? = some v → Rep M d v) (r2 : ∀ (i : Nat) (d : D) (v : Value), cap[i]? = some d → cv[i]? = some v → Rep M d v) :
      Rep M (.fn f first cap) (.func f fv cv)
  | agg {M : MM} {cs : List D} {vs : Array Value} (h : cs.length = vs.size) (r : ∀ (i : Nat) (d : D) (v : Value), cs[i]? = some d → vs[i]? = some v → Rep M d v) :
      Rep M (.agg cs) (.agg vs)
  | tup {M : MM} {cs : List D} {vs : Array Value} (h : cs.length = vs.size) (r : ∀ (i : Nat) (d : D) (v : Value), cs[i]? = some d → vs[i]? = some v → Rep M d v) :
      Rep M (.tup cs) (.tuple vs)

/-- One view knows all that the other does. -/
structure MM.Le (M M' : MM) : Prop where
  cell : ∀ b o v, M.cell b o = some v → M'.cell b o = some v
  box : ∀ id b, M.box id = some b → M'.box id = some b
  hist : ∀ t v x, M.hist t v = some x → M'.hist t v = some x

theorem MM.Le.refl (M : MM) : M.Le M := ⟨fun _ _ _ h => h, fun _ _ h => h, fun _ _ _ h => h⟩
theorem MM.Le.trans {A B C : MM} (h : A.Le B) (k : B.Le C) : A.Le C :=
  ⟨fun b o v x => k.cell b o v (h.cell b o v x), fun i b x => k.box i b (h.box i b x), fun t v x y => k.hist t v x (h.hist t v x y)⟩
theorem MM.Le.bare {A B : MM} (h : A.Le B) : A.bare.Le B.bare := ⟨h.cell, fun _ _ x => x, fun _ _ _ x => x⟩

theorem MM.owns_mono {M M' : MM} (h : M.Le M') : ∀ {o : Own} {a : Option Addr} {l c : Nat}, M.owns o a l c → M'.owns o a l c
  | .no, _, _, _, x => x
  | .fresh _, _, _, _, x => x
  | .tight, _, _, _, x => x
  | .tok _ _, _, _, _, x => h.hist _ _ _ x

theorem Rep.mono {M : MM} {d : D} {v : Value} (h : Rep M d v) : ∀ {M' : MM}, M.Le M' → Rep M' d v := by
  induction h with
  | undef v => exact fun _ => .undef v
  | int k n => exact fun _ => .int k n
  | bool b => exact fun _ => .bool b
  | str s => exact fun _ => .str s
  | nilp => exact fun _ => .nilp
  | ptr q h => exact fun le => .ptr q (le.box _ _ h)
  | eptr q vs hx hc hr ih => exact fun le => .eptr q vs hx (fun j c h => le.cell _ _ _ (hc j c h)) (fun j c h => ih j c h le.bare)
  | lst b off vs hl hcap ha hsz hc hr hst ho ih =>
    exact fun le => .lst b off vs hl hcap ha hsz (fun i x cs j c h1 h2 h3 => le.cell _ _ _ (hc i x cs j c h1 h2 h3)) (fun i x cs j c h1 h2 h3 => ih i x cs j c h1 h2 h3 le.bare) hst (MM.owns_mono le ho)
  | nilf => exact fun _ => .nilf
  | fn h1 h2 r1 r2 i1 i2 => exact fun le => .fn h1 h2 (fun i d v a b => i1 i d v a b le) (fun i d v a b => i2 i d v a b le)
  | agg h r ih => exact fun le => .agg h (fun i d v a b => ih i d v a b le)
  | tup h r ih => exact fun le => .tup h (fun i d v a b => ih i d v a b le)

/-! ### Flags that are given up; values that hold no box -/
def Own.demote : Own → Own
  | .tight => .tight
  | _ => .no

mutual
def D.demote : D → D
  | .lst o sz xs => .lst o.demote sz xs
  | .agg cs => .agg (D.demoteL cs)
  | .tup cs => .tup (D.demoteL cs)
  | .fn f a b => .fn f (D.demoteL a) (D.demoteL b)
  | d => d
def D.demoteL : List D → List D
  | [] => []
  | d :: r => d.demote :: D.demoteL r
end

mutual
/-- No box, nothing unknown. -/
def D.clean : D → Bool
  | .undef => false
  | .ptr _ _ _ => false
  | .eptr _ _ _ => false
  | .agg cs => D.cleanL cs
  | .tup cs => D.cleanL cs
  | .fn _ a b => D.cleanL a && D.cleanL b
  | _ => true
def D.cleanL : List D → Bool
  | [] => true
  | d :: r => d.clean && D.cleanL r
end

theorem D.demoteL_eq (l : List D) : D.demoteL l = l.map D.demote := by
  induction l with
  | nil => simp [D.demoteL]
  | cons d r ih => simp [D.demoteL, ih]
theorem D.cleanL_eq (l : List D) : D.cleanL l = l.all D.clean := by
  induction l with
  | nil => simp [D.cleanL]
  | cons d r ih => simp [D.cleanL, ih]

/-- What holds no box, its flags given up, stands for its value in the bare view. -/
theorem Rep.toBare {M : MM} {d : D} {v : Value} (h : Rep M d v) : d.clean = true → Rep M.bare d.demote v := by
  induction h with
  | undef v => intro c; simp [D.clean] at c
  | int k n => intro _; exact .int k n
  | bool b => intro _; exact .bool b
  | str s => intro _; exact .str s
  | nilp => intro _; exact .nilp
  | ptr q h => intro c; simp [D.clean] at c
  | eptr q vs hx hc hr ih => intro c; simp [D.clean] at c
  | lst b off vs hl hcap ha hsz hc hr hst ho ih =>
    rename_i o _ _ _ _ _
    intro _
    rw [D.demote]
    refine .lst b off vs hl hcap ha hsz hc hr hst ?_
    cases o <;> first | trivial | exact ho
  | nilf => intro _; exact .nilf
  | fn h1 h2 r1 r2 i1 i2 =>
    intro c
    rw [D.clean, D.cleanL_eq, D.cleanL_eq, Bool.and_eq_true, List.all_eq_true, List.all_eq_true] at c
    rw [D.demote, D.demoteL_eq, D.demoteL_eq]
    refine .fn (by simpa using h1) (by simpa using h2) ?_ ?_
    · intro i d v a b
      rw [List.getElem?_map, Option.map_eq_some_iff] at a
      obtain ⟨d0, h0, rfl⟩ := a
      exact i1 i d0 v h0 b (c.1 _ (List.mem_of_getElem? h0))
    · intro i d v a b
      rw [List.getElem?_map, Option.map_eq_some_iff] at a
      obtain ⟨d0, h0, rfl⟩ := a
      exact i2 i d0 v h0 b (c.2 _ (List.mem_of_getElem? h0))
  | agg h r ih =>
    intro c
    rw [D.clean, D.cleanL_eq, List.all_eq_true] at c
    rw [D.demote, D.demoteL_eq]
    refine .agg (by simpa using h) ?_
    intro i d v a b
    rw [List.getElem?_map, Option.map_eq_some_iff] at a
    obtain ⟨d0, h0, rfl⟩ := a
    exact ih i d0 v h0 b (c _ (List.mem_of_getElem? h0))
  | tup h r ih =>
    intro c
    rw [D.clean, D.cleanL_eq, List.all_eq_true] at c
    rw [D.demote, D.demoteL_eq]
    refine .tup (by simpa using h) ?_
    intro i d v a b
    rw [List.getElem?_map, Option.map_eq_some_iff] at a
    obtain ⟨d0, h0, rfl⟩ := a
    exact ih i d0 v h0 b (c _ (List.mem_of_getElem? h0))

theorem MM.bare_le (M : MM) : M.bare.Le M := ⟨fun _ _ _ h => h, fun _ _ h => by simp [MM.bare] at h, fun _ _ _ h => by simp [MM.bare] at h⟩

theorem D.clean_cells {x : D} {cs : List D} (h : x.cells = some cs) (c : x.clean = true) : ∀ d ∈ cs, d.clean = true := by
  cases x <;> simp only [D.cells, Option.some.injEq, reduceCtorEq] at h <;> subst h
  case agg cs => rw [D.clean, D.cleanL_eq, List.all_eq_true] at c; exact c
  all_goals (intro d hd; rw [List.mem_singleton] at hd; subst hd; exact c)
theorem D.demote_cells {x : D} {cs : List D} (h : x.cells = some cs) : x.demote.cells = some (cs.map D.demote) := by
  cases x <;> simp only [D.cells, Option.some.injEq, reduceCtorEq] at h <;> subst h <;> simp [D.demote, D.cells, D.demoteL_eq]


def Own.low : Own → Bool
  | .no => true
  | .tight => true
  | _ => false

mutual
/-- No box, nothing unknown, no family's handle. -/
def D.plain : D → Bool
  | .undef => false
  | .ptr _ _ _ => false
  | .eptr _ _ _ => false
  | .lst o _ _ => o.low
  | .agg cs => D.plainL cs
  | .tup cs => D.plainL cs
  | .fn _ a b => D.plainL a && D.plainL b
  | _ => true
def D.plainL : List D → Bool
  | [] => true
  | d :: r => d.plain && D.plainL r
end
theorem D.plainL_eq (l : List D) : D.plainL l = l.all D.plain := by
  induction l with
  | nil => simp [D.plainL]
  | cons d r ih => simp [D.plainL, ih]

theorem Rep.ofPlain {M : MM} {d : D} {v : Value} (h : Rep M d v) : d.plain = true → Rep M.bare d v := by
  induction h with
  | undef v => intro c; simp [D.plain] at c
  | int k n => intro _; exact .int k n
  | bool b => intro _; exact .bool b
  | str s => intro _; exact .str s
  | nilp => intro _; exact .nilp
  | ptr q h => intro c; simp [D.plain] at c
  | eptr q vs hx hc hr ih => intro c; simp [D.plain] at c
  | lst b off vs hl hcap ha hsz hc hr hst ho ih =>
    rename_i o _ _ _ _ _
    intro c
    refine .lst b off vs hl hcap ha hsz hc hr hst ?_
    rw [D.plain] at c
    cases o <;> first | exact ho | (simp [Own.low] at c)
  | nilf => intro _; exact .nilf
  | fn h1 h2 r1 r2 i1 i2 =>
    intro c
    rw [D.plain, D.plainL_eq, D.plainL_eq, Bool.and_eq_true, List.all_eq_true, List.all_eq_true] at c
    exact .fn h1 h2 (fun i d v a b => i1 i d v a b (c.1 _ (List.mem_of_getElem? a))) (fun i d v a b => i2 i d v a b (c.2 _ (List.mem_of_getElem? a)))
  | agg h r ih =>
    intro c
    rw [D.plain, D.plainL_eq, List.all_eq_true] at c
    exact .agg h (fun i d v a b => ih i d v a b (c _ (List.mem_of_getElem? a)))
  | tup h r ih =>
    intro c
    rw [D.plain, D.plainL_eq, List.all_eq_true] at c
    exact .tup h (fun i d v a b => ih i d v a b (c _ (List.mem_of_getElem? a)))

theorem D.plain_cells {x : D} {cs : List D} (h : x.cells = some cs) (c : x.plain = true) : ∀ d ∈ cs, d.plain = true := by
  cases x <;> simp only [D.cells, Option.some.injEq, reduceCtorEq] at h <;> subst h
  case agg cs => rw [D.plain, D.plainL_eq, List.all_eq_true] at c; exact c
  all_goals (intro d hd; rw [List.mem_singleton] at hd; subst hd; exact c)

mutual
theorem demote_plain : ∀ {d : D}, d.clean = true → d.demote.plain = true
  | .undef, h => by simp [D.clean] at h
  | .int _ _, _ => by simp [D.demote, D.plain]
  | .bool _, _ => by simp [D.demote, D.plain]
  | .str _, _ => by simp [D.demote, D.plain]
  | .nilp, _ => by simp [D.demote, D.plain]
  | .ptr _ _ _, h => by simp [D.clean] at h
  | .eptr _ _ _, h => by simp [D.clean] at h
  | .lst o _ _, _ => by cases o <;> simp [D.demote, D.plain, Own.demote, Own.low]
  | .nilf, _ => by simp [D.demote, D.plain]
  | .fn _ a b, h => by
    simp only [D.clean, Bool.and_eq_true] at h
    simp only [D.demote, D.plain, Bool.and_eq_true]
    exact ⟨demoteL_plain h.1, demoteL_plain h.2⟩
  | .agg cs, h => by simp only [D.clean] at h; simp only [D.demote, D.plain]; exact demoteL_plain h
  | .tup cs, h => by simp only [D.clean] at h; simp only [D.demote, D.plain]; exact demoteL_plain h
theorem demoteL_plain : ∀ {l : List D}, D.cleanL l = true → D.plainL (D.demoteL l) = true
  | [], _ => by simp [D.demoteL, D.plainL]
  | d :: r, h => by
    simp only [D.cleanL, Bool.and_eq_true] at h
    simp only [D.demoteL, D.plainL, Bool.and_eq_true]
    exact ⟨demote_plain h.1, demoteL_plain h.2⟩
end

/-- Another flag. -/
theorem Rep.flag {M : MM} {o : Own} {sz : Nat} {xs : List D} {a : Option Addr} {len cap : Nat} (h : Rep M (.lst o sz xs) (.slice a len cap)) (o' : Own) (ho : M.owns o' a len cap) : Rep M (.lst o' sz xs) (.slice a len cap) := by
  cases h with
  | lst b off vs hl hcap ha hsz hc hr hst _ => exact .lst b off vs hl hcap ha hsz hc hr hst ho
/-- An empty list's element may be of any size. -/
theorem Rep.resize {M : MM} {o : Own} {sz size : Nat} {xs : List D} {v : Value} (h : Rep M (.lst o sz xs) v) (hs : sz = size ∨ xs = []) : Rep M (.lst o size xs) v := by
  rcases hs with rfl | rfl
  · exact h
  · cases h with
    | lst b off vs hl hcap ha hsz hc hr hst ho => exact .lst b off vs hl hcap ha (fun i x hx => by simp at hx) (fun i x cs j c hx => by simp at hx) (fun i x cs j c hx => by simp at hx) hst ho

/-- Lists that stand for arrays of values. -/
def RepL (M : MM) (cs : List D) (vs : Array Value) : Prop := cs.length = vs.size ∧ ∀ (i : Nat) (d : D) (v : Value), cs[i]? = some d → vs[i]? = some v → Rep M d v

theorem RepL.mono {M M' : MM} {cs : List D} {vs : Array Value} (h : RepL M cs vs) (le : M.Le M') : RepL M' cs vs := ⟨h.1, fun i d v a b => (h.2 i d v a b).mono le⟩

/-- A value's cells stand for its value's. -/
theorem Rep.cells {M : MM} {x : D} {v : Value} (h : Rep M x v) {cs : List D} (hx : x.cells = some cs) : RepL M cs v.cells := by
  have one : ∀ {d : D} {u : Value}, Rep M d u → u.cells = #[u] → RepL M [d] u.cells := by
    intro d u r e
    rw [e]
    refine ⟨rfl, fun i d' v' a b => ?_⟩
    cases i with
    | zero => simp at a b; subst a b; exact r
    | succ i => simp at a
  cases h with
  | undef v => cases hx
  | int k n => cases hx; exact one (.int _ _) rfl
  | bool b => cases hx; exact one (.bool _) rfl
  | str t => cases hx; exact one (.str _) rfl
  | nilp => cases hx; exact one .nilp rfl
  | ptr q hb => cases hx; exact one (.ptr q hb) rfl
  | eptr q vs hy hc hr => cases hx; exact one (.eptr q vs hy hc hr) rfl
  | lst b off vs hl hcap ha hsz hc hr hst ho => cases hx; exact one (.lst b off vs hl hcap ha hsz hc hr hst ho) rfl
  | nilf => cases hx; exact one .nilf rfl
  | fn h1 h2 r1 r2 => cases hx; exact one (.fn h1 h2 r1 r2) rfl
  | agg hl hr => cases hx; exact ⟨hl, hr⟩
  | tup hl hr => cases hx

end Go.Ev
